/-
  Matrices: the examples' matrices.
-/
import Derived.Test.YtikegnnlmfidfaaMatS
namespace Go.Proofs.Ytikegnnlmfidfaa
open Go.RowKit
/-- Rows that any world reads that is alike from b on. -/
def KeepR (b : Nat) (V : World) (A : Option Addr) (n : Nat) (rs : List Rw) : Prop := ∀ V2 : World, (∀ j, b ≤ j → j < V.heap.size → V2.heap[j]? = V.heap[j]?) → RowsR V2 V2.heap.size A n rs
theorem KeepR.rows {b n : Nat} {V : World} {A : Option Addr} {rs : List Rw} (h : KeepR b V A n rs) : RowsR V V.heap.size A n rs := h V fun _ _ _ => rfl
theorem KeepR.up {b b' n : Nat} {V V' : World} {A : Option Addr} {rs : List Rw} (h : KeepR b V A n rs) (hb : b' ≤ b) (hz : V.heap.size ≤ V'.heap.size) (hk : ∀ j, b' ≤ j → j < V.heap.size → V'.heap[j]? = V.heap[j]?) : KeepR b' V' A n rs :=
  fun V2 h2 => h V2 fun j h3 h4 => (h2 j (Nat.le_trans hb h3) (Nat.lt_of_lt_of_le h4 hz)).trans (hk j (Nat.le_trans hb h3) h4)
theorem KeepR.nil_ (b : Nat) (V : World) : KeepR b V none 0 [] := fun _ _ => ⟨Reads.none_, by simp⟩
def stepM (m : PM) (c : PC) : PM := if (applyP m c).2 = 0 then (applyP m c).1 else m
/-- A matrix that some changes make. -/
def madeP (own : Int) (l : List PC) : PM := l.foldl stepM (own, [])
def chC (c : PC) : List Value := [.int .i64 c.1, .string c.2.1, .int .i64 c.2.2]
theorem chC_len (c : PC) : (chC c).length = 3 := rfl
theorem ch_at {w : World} {B n k : Nat} {A : Option Addr} {cs : List PC} (h : Reads w B 3 A n (cs.flatMap chC)) (hk : k < n) :
    ∃ ad kd f d, A = some ad ∧ cs[k]? = some (kd, f, d) ∧ ∀ W, Below B w W → ∀ j u, (chC (kd, f, d))[j]? = some u → W.cell? ((ad.add (k * 3)).add j) = some u := by
  have hl : cs.length = n := by
    have h1 := h.1
    rw [flat_len chC_len] at h1
    omega
  obtain ⟨ad, e, hb, hc⟩ := h.2 (by omega)
  obtain ⟨kd, f, d, hx⟩ : ∃ kd f d, cs[k]? = some (kd, f, d) := ⟨_, _, _, List.getElem?_eq_getElem (by omega)⟩
  refine ⟨ad, kd, f, d, e, hx, fun W hW j u hu => ?_⟩
  have hj : j < 3 := (List.getElem?_eq_some_iff.1 hu).1
  have h1 := flat_at chC_len cs hx hj
  rw [add_of_add]
  exact (hW.cell (by rw [block_of_add]; exact hb)).trans (hc _ u (h1.trans hu))
set_option maxRecDepth 100000 in
set_option maxHeartbeats 16000000 in
theorem made_v (own : Int) (A : Option Addr) (n c B : Nat) (cs : List PC) (w : World) (hr : Reads w B 3 A n (cs.flatMap chC)) (hB : B ≤ w.heap.size) (hn : n ≤ 9223372036854775807) (hfs : ∀ x ∈ cs, x.2.1.size ≤ 9223372036854775807) :
    Calls Try.prog 18 #[.int .i64 own, .slice A n c] w fun e w' => ∃ A' n' c' rs', e = .returned (.agg #[.int .i64 (madeP own cs).1, .slice A' n' c']) ∧ RowsR w' w'.heap.size A' n' rs' ∧ rs'.map Rw.p = (madeP own cs).2 ∧ n' ≤ 8 ∧ Below w.heap.size w w' := by
  have HIM := Lib.hid (show (Try.prog.info? 27).map (·.size) = some 2 by kernel_rfl)
  have HR := Lib.hid hr
  have HFS := Lib.hid hfs
  have HLN := Lib.hid (show cs.length = n by
    have h1 := hr.1
    rw [flat_len chC_len] at h1
    omega)
  have B0 := Lib.hid (((Below.refl w.heap.size w).alloc (Nat.le_refl _) (.cells #[.int .i64 0, .slice none 0 0] 27)).alloc (by simp) (.cells #[.int .i64 own, .slice none 0 0] 27))
  have X0 := Lib.hid (show ((w.alloc (.cells #[.int .i64 0, .slice none 0 0] 27)).alloc (.cells #[.int .i64 own, .slice none 0 0] 27)).heap[w.heap.size]? = some (.cells #[.int .i64 0, .slice none 0 0] 27 (0, 0)) from (Below.heap_alloc _ _ _ (by simp)).trans (heap_alloc_new w _))
  have Y0 := Lib.hid (show ((w.alloc (.cells #[.int .i64 0, .slice none 0 0] 27)).alloc (.cells #[.int .i64 own, .slice none 0 0] 27)).heap[w.heap.size + 1]? = some (.cells #[.int .i64 own, .slice none 0 0] 27 (0, 0)) from by
    have h := heap_alloc_new (w.alloc (.cells #[.int .i64 0, .slice none 0 0] 27)) (.cells #[.int .i64 own, .slice none 0 0] 27)
    simpa using h)
  clear hr hfs
  go_enter Try.func18, Try.ntmps18
  go_upto_region 2 with fail
  generalize (w.alloc (.cells #[.int .i64 0, .slice none 0 0] 27)).alloc (.cells #[.int .i64 own, .slice none 0 0] 27) = w0 at *
  generalize hg : w.heap.size = g at *
  go_wp2_with fail
  go_loopw [6] (fun i V => ∃ (k n' c' : Nat) (own' : Int) (A' : Option Addr) (rs' : List Rw), k ≤ n ∧ i = .int .i64 (k : Int) ∧ Below g w V ∧ V.heap[g]? = some (.cells #[.int .i64 0, .slice none 0 0] 27 (0, 0)) ∧ V.heap[g + 1]? = some (.cells #[.int .i64 own', .slice A' n' c'] 27 (0, 0)) ∧ KeepR (g + 2) V A' n' rs' ∧ (own', rs'.map Rw.p) = madeP own (cs.take k) ∧ n' ≤ 8) (fun i _ => n - (intOf i).toNat)
  case atStart => exact ⟨0, 0, 0, own, none, [], Nat.zero_le _, rfl, B0.out, X0.out, Y0.out, KeepR.nil_ _ _, rfl, by omega⟩
  case round =>
    obtain ⟨k, n', c', own', A', rs', hk, rfl, hb, hx, hy, hkr, hm, hn'⟩ := hrel
    have HB := Lib.hid hb
    have HX := Lib.hid hx
    have HY := Lib.hid hy
    have HK := Lib.hid hkr
    have HM := Lib.hid hm
    have hzv : g + 2 ≤ wr.heap.size := by have := (Array.getElem?_eq_some_iff.1 hy).1; omega
    have c10 : wr.cell? ⟨g + 1, 0, none⟩ = some (.int .i64 own') := by rw [cell_of_row _ _ 0 _ _ _ hy]; rfl
    have c11 : wr.cell? ⟨g + 1, 1, none⟩ = some (.slice A' n' c') := by rw [cell_of_row _ _ 1 _ _ _ hy]; rfl
    clear hb hx hy hkr hm
    by_cases hlt : k < n
    · obtain ⟨ad, kd, f, d, rfl, hx, hc⟩ := ch_at HR.out hlt
      have HF := Lib.hid (show f.size ≤ 9223372036854775807 from HFS.out _ (List.mem_of_getElem? hx))
      have hcw := hc wr (HB.out.mono hB)
      have k0 : (0 : Int) ≤ (k : Int) := by omega
      have HST := Lib.hid (show madeP own (cs.take (k + 1)) = stepM (own', rs'.map Rw.p) (kd, f, d) by
        rw [HM.out]
        unfold madeP
        rw [List.take_add_one, hx, List.foldl_append]
        rfl)
      obtain ⟨⟨⟨o1, l1⟩, e1⟩, hap⟩ : ∃ r, applyP (own', rs'.map Rw.p) (kd, f, d) = r := ⟨_, rfl⟩
      have HAP := Lib.hid hap
      have hS : wr.drew.cell? ⟨g + 1, 0, none⟩ = some (.int .i64 own') ∧ wr.drew.cell? ⟨g + 1, 1, none⟩ = some (.slice A' n' c') ∧ wr.drew.cell? (ad.add (k * 3)) = some (.int .i64 kd) ∧ wr.drew.cell? ⟨(ad.add (k * 3)).block, (ad.add (k * 3)).off + 1, none⟩ = some (.string f) ∧ wr.drew.cell? ⟨(ad.add (k * 3)).block, (ad.add (k * 3)).off + 2, none⟩ = some (.int .i64 d) :=
        ⟨c10, c11, by have h := hcw 0 _ rfl; rwa [add_zero] at h, hcw 1 _ rfl, hcw 2 _ rfl⟩
      have HCH := Lib.hid (show ∀ V : World, Below wr.heap.size wr V → V.cell? (ad.add (k * 3)) = some (.int .i64 kd) ∧ V.cell? ⟨(ad.add (k * 3)).block, (ad.add (k * 3)).off + 1, none⟩ = some (.string f) ∧ V.cell? ⟨(ad.add (k * 3)).block, (ad.add (k * 3)).off + 2, none⟩ = some (.int .i64 d) from fun V hV => by
        have h := hc V ((HB.out.trans (hV.mono (by omega))).mono hB)
        exact ⟨by have h := h 0 _ rfl; rwa [add_zero] at h, h 1 _ rfl, h 2 _ rfl⟩)
      have T0 := Lib.hid (show Below wr.heap.size wr wr.drew from (Below.refl _ _).drew)
      clear hx hc hcw c10 c11 hap
      go_upto_region 5 with fail
      refine wp_region_tree (SK.one 0 false <| .one 1 false <| .one 2 false <| .one 3 false <| .one 4 false <| .two 5 (.one 6 false <| .one 7 false <| .one 8 false <| .one 9 true <| .one 10 true <| .one 11 false .done) 9 (.one 5 true <| .one 6 false <| .one 7 false <| .one 8 false <| .one 10 true <| .one 11 false .done)) (fun V => V.cell? ⟨g + 1, 0, none⟩ = some (.int .i64 own') ∧ V.cell? ⟨g + 1, 1, none⟩ = some (.slice A' n' c') ∧ V.cell? (ad.add (k * 3)) = some (.int .i64 kd) ∧ V.cell? ⟨(ad.add (k * 3)).block, (ad.add (k * 3)).off + 1, none⟩ = some (.string f) ∧ V.cell? ⟨(ad.add (k * 3)).block, (ad.add (k * 3)).off + 2, none⟩ = some (.int .i64 d)) (by kernel_rfl) (by kernel_rfl) (by kernel_rfl) (by kernel_rfl) ?_
      have hzd : wr.heap.size ≤ wr.drew.heap.size := Nat.le_refl _
      have HKD := Lib.hid (HK.out.up (V' := wr.drew) (Nat.le_refl _) (Nat.le_refl _) (fun j _ _ => rfl))
      generalize wr.drew = v0 at *
      have AV : ∀ V : World, KeepR (g + 2) V A' n' rs' → Calls Try.prog 21 #[.agg #[.int .i64 own', .slice A' n' c'], .agg #[.int .i64 kd, .string f, .int .i64 d]] V fun e w' => ∃ A1 n1 c1 rs1, e = .returned (.tuple #[.agg #[.int .i64 o1, .slice A1 n1 c1], .int .i64 (e1 : Int)]) ∧ KeepR V.heap.size w' A1 n1 rs1 ∧ rs1.map Rw.p = l1 ∧ n1 ≤ 8 ∧ Below V.heap.size V w' := fun V hV => by
        have h := apply_v own' A' n' c' V.heap.size rs' kd f d V hV.rows (Nat.le_refl _) (by omega) HF.out
        rw [HAP.out] at h
        refine h.mono ?_
        rintro e w' ⟨A1, n1, c1, rs1, h1, _, h2, h3, _, h4, _, h5⟩
        exact ⟨A1, n1, c1, rs1, h1, h2, h3, h4, h5⟩
      have HAV := Lib.hid AV
      clear AV
      ((first | (refine TR.val2 (v := ?_) _ (by simp only [List.getElem?_toArray, List.getElem?_cons_zero]; rfl) ?_ ?_ ?_ ?_ ?_; rotate_left; (focus rfl); (focus (intro W hSW; (try dsimp only at hSW); (try (obtain ⟨hS1, hSW⟩ := hSW)); (try (obtain ⟨hS2, hSW⟩ := hSW)); (try (obtain ⟨hS3, hSW⟩ := hSW)); (try (obtain ⟨hS4, hSW⟩ := hSW)); (try (obtain ⟨hS5, hSW⟩ := hSW)); (try (obtain ⟨hS6, hSW⟩ := hSW)); (try (obtain ⟨hS7, hSW⟩ := hSW)); (try (obtain ⟨hS8, hSW⟩ := hSW)); go_simp; (try with_reducible rfl); done)); (focus exact fun _ _ _ h => h); (focus assumption)) | (refine TR.skip _ (by simp only [List.getElem?_toArray, List.getElem?_cons_zero]; rfl) ?_ ?_ ?_ ?_; (focus rfl); (focus exact fun _ _ _ h => h); (focus assumption))); simp only [Act.put, List.setIfInBounds_toArray, List.set_cons_zero, List.set_cons_succ])
      iterate 4 ((first | (refine TR.val2 (v := ?_) _ (by simp only [List.getElem?_toArray, List.getElem?_cons_succ, List.getElem?_cons_zero]; rfl) ?_ ?_ ?_ ?_ ?_; rotate_left; (focus rfl); (focus (intro W hSW; (try dsimp only at hSW); (try (obtain ⟨hS1, hSW⟩ := hSW)); (try (obtain ⟨hS2, hSW⟩ := hSW)); (try (obtain ⟨hS3, hSW⟩ := hSW)); (try (obtain ⟨hS4, hSW⟩ := hSW)); (try (obtain ⟨hS5, hSW⟩ := hSW)); (try (obtain ⟨hS6, hSW⟩ := hSW)); (try (obtain ⟨hS7, hSW⟩ := hSW)); (try (obtain ⟨hS8, hSW⟩ := hSW)); go_simp; (try with_reducible rfl); done)); (focus exact fun _ _ _ h => h); (focus assumption)) | (refine TR.skip _ (by simp only [List.getElem?_toArray, List.getElem?_cons_succ, List.getElem?_cons_zero]; rfl) ?_ ?_ ?_ ?_; (focus rfl); (focus exact fun _ _ _ h => h); (focus assumption))); simp only [Act.put, List.setIfInBounds_toArray, List.set_cons_zero, List.set_cons_succ])
      refine TR.two _ _ (by simp only [List.getElem?_toArray, List.getElem?_cons_succ, List.getElem?_cons_zero]; rfl) (by simp only [List.getElem?_toArray, List.getElem?_cons_succ, List.getElem?_cons_zero]; rfl) (by rfl) (by rfl) (fun K hK => ?_) (fun K hK => ?_)
      · go_simp
        refine (HAV.out v0 HKD.out).mono ?_
        rintro e w1 ⟨A1, n1, c1, rs1, rfl, hk1, hl1, hn1, b1⟩
        have T1 := Lib.hid (T0.out.trans (b1.mono (by omega)))
        have HK1 := Lib.hid hk1
        have HL1 := Lib.hid hl1
        have hz1 := b1.size
        have hS1 := (⟨keepc b1 hS.1, keepc b1 hS.2.1, keepc b1 hS.2.2.1, keepc b1 hS.2.2.2.1, keepc b1 hS.2.2.2.2⟩ : w1.cell? ⟨g + 1, 0, none⟩ = some (.int .i64 own') ∧ w1.cell? ⟨g + 1, 1, none⟩ = some (.slice A' n' c') ∧ w1.cell? (ad.add (k * 3)) = some (.int .i64 kd) ∧ w1.cell? ⟨(ad.add (k * 3)).block, (ad.add (k * 3)).off + 1, none⟩ = some (.string f) ∧ w1.cell? ⟨(ad.add (k * 3)).block, (ad.add (k * 3)).off + 2, none⟩ = some (.int .i64 d))
        clear hk1 hl1 b1 hS HKD HAV
        refine hK.out _ _ hS1 ?_
        clear hK
        (try simp only [Act.put, List.setIfInBounds_toArray, List.set_cons_zero, List.set_cons_succ])
        have hS := hS1
        clear hS1
        iterate 3 ((first | (refine TR.val2 (v := ?_) _ (by simp only [List.getElem?_toArray, List.getElem?_cons_succ, List.getElem?_cons_zero]; rfl) ?_ ?_ ?_ ?_ ?_; rotate_left; (focus rfl); (focus (intro W hSW; (try dsimp only at hSW); (try (obtain ⟨hS1, hSW⟩ := hSW)); (try (obtain ⟨hS2, hSW⟩ := hSW)); (try (obtain ⟨hS3, hSW⟩ := hSW)); (try (obtain ⟨hS4, hSW⟩ := hSW)); (try (obtain ⟨hS5, hSW⟩ := hSW)); (try (obtain ⟨hS6, hSW⟩ := hSW)); (try (obtain ⟨hS7, hSW⟩ := hSW)); (try (obtain ⟨hS8, hSW⟩ := hSW)); go_simp; (try with_reducible rfl); done)); (focus exact fun _ _ _ h => h); (focus assumption)) | (refine TR.skip _ (by simp only [List.getElem?_toArray, List.getElem?_cons_succ, List.getElem?_cons_zero]; rfl) ?_ ?_ ?_ ?_; (focus rfl); (focus exact fun _ _ _ h => h); (focus assumption))); simp only [Act.put, List.setIfInBounds_toArray, List.set_cons_zero, List.set_cons_succ])
        refine TR.eff _ (by simp only [List.getElem?_toArray, List.getElem?_cons_succ, List.getElem?_cons_zero]; rfl) (by rfl) (fun K hK => ?_); go_simp
        have bA := (Below.refl w1.heap.size w1).alloc (Nat.le_refl _) (.cells #[.int .i64 0, .slice none 0 0] 27)
        have h0 := heap_alloc_new w1 (.cells #[.int .i64 0, .slice none 0 0] 27)
        have hS1 := (⟨keepc bA hS.1, keepc bA hS.2.1, keepc bA hS.2.2.1, keepc bA hS.2.2.2.1, keepc bA hS.2.2.2.2⟩ : (w1.alloc (.cells #[.int .i64 0, .slice none 0 0] 27)).cell? ⟨g + 1, 0, none⟩ = some (.int .i64 own') ∧ (w1.alloc (.cells #[.int .i64 0, .slice none 0 0] 27)).cell? ⟨g + 1, 1, none⟩ = some (.slice A' n' c') ∧ (w1.alloc (.cells #[.int .i64 0, .slice none 0 0] 27)).cell? (ad.add (k * 3)) = some (.int .i64 kd) ∧ (w1.alloc (.cells #[.int .i64 0, .slice none 0 0] 27)).cell? ⟨(ad.add (k * 3)).block, (ad.add (k * 3)).off + 1, none⟩ = some (.string f) ∧ (w1.alloc (.cells #[.int .i64 0, .slice none 0 0] 27)).cell? ⟨(ad.add (k * 3)).block, (ad.add (k * 3)).off + 2, none⟩ = some (.int .i64 d))
        refine hK.out _ _ hS1 ?_
        clear hK hS
        (try simp only [Act.put, List.setIfInBounds_toArray, List.set_cons_zero, List.set_cons_succ])
        refine TR.eff _ (by simp only [List.getElem?_toArray, List.getElem?_cons_succ, List.getElem?_cons_zero]; rfl) (by rfl) (fun K hK => ?_)
        refine wp_store_row 27 (.tmp 7) (.tmp 24) rfl w1.heap.size #[.int .i64 o1, .slice A1 n1 c1] rfl rfl 27 _ h0 HIM.out rfl (by simp [Value.oneCell']) ?_
        have H74 := Lib.hid (setRow_heap _ w1.heap.size _ #[.int .i64 o1, .slice A1 n1 c1] _ _ h0)
        have b4 := below_setRow bA (Nat.le_refl _) #[.int .i64 o1, .slice A1 n1 c1]
        have T4 := Lib.hid (T1.out.trans (b4.mono T1.out.size))
        have HN4 := Lib.hid (HK1.out.up (b' := g + 2) (V' := (w1.alloc (.cells #[.int .i64 0, .slice none 0 0] 27)).setRow w1.heap.size #[.int .i64 o1, .slice A1 n1 c1]) (by omega) b4.size (fun j _ h2 => b4.block j h2))
        have hz4 : g + 2 ≤ w1.heap.size := by omega
        have hS2 := (⟨(World.cell?_of_block (setRow_other _ _ _ _ (by show g + 1 ≠ w1.heap.size; omega))).trans hS1.1, (World.cell?_of_block (setRow_other _ _ _ _ (by show g + 1 ≠ w1.heap.size; omega))).trans hS1.2.1, HCH.out _ T4.out⟩ : ((w1.alloc (.cells #[.int .i64 0, .slice none 0 0] 27)).setRow w1.heap.size #[.int .i64 o1, .slice A1 n1 c1]).cell? ⟨g + 1, 0, none⟩ = some (.int .i64 own') ∧ ((w1.alloc (.cells #[.int .i64 0, .slice none 0 0] 27)).setRow w1.heap.size #[.int .i64 o1, .slice A1 n1 c1]).cell? ⟨g + 1, 1, none⟩ = some (.slice A' n' c') ∧ ((w1.alloc (.cells #[.int .i64 0, .slice none 0 0] 27)).setRow w1.heap.size #[.int .i64 o1, .slice A1 n1 c1]).cell? (ad.add (k * 3)) = some (.int .i64 kd) ∧ ((w1.alloc (.cells #[.int .i64 0, .slice none 0 0] 27)).setRow w1.heap.size #[.int .i64 o1, .slice A1 n1 c1]).cell? ⟨(ad.add (k * 3)).block, (ad.add (k * 3)).off + 1, none⟩ = some (.string f) ∧ ((w1.alloc (.cells #[.int .i64 0, .slice none 0 0] 27)).setRow w1.heap.size #[.int .i64 o1, .slice A1 n1 c1]).cell? ⟨(ad.add (k * 3)).block, (ad.add (k * 3)).off + 2, none⟩ = some (.int .i64 d))
        clear h0 bA b4 hS1
        generalize (w1.alloc (.cells #[.int .i64 0, .slice none 0 0] 27)).setRow w1.heap.size #[.int .i64 o1, .slice A1 n1 c1] = w4 at *
        generalize w1.heap.size = g7 at *
        refine hK.out _ _ hS2 ?_
        clear hK
        (try simp only [Act.put, List.setIfInBounds_toArray, List.set_cons_zero, List.set_cons_succ])
        have hS := hS2
        clear hS2
        iterate 1 ((first | (refine TR.val2 (v := ?_) _ (by simp only [List.getElem?_toArray, List.getElem?_cons_succ, List.getElem?_cons_zero]; rfl) ?_ ?_ ?_ ?_ ?_; rotate_left; (focus rfl); (focus (intro W hSW; (try dsimp only at hSW); (try (obtain ⟨hS1, hSW⟩ := hSW)); (try (obtain ⟨hS2, hSW⟩ := hSW)); (try (obtain ⟨hS3, hSW⟩ := hSW)); (try (obtain ⟨hS4, hSW⟩ := hSW)); (try (obtain ⟨hS5, hSW⟩ := hSW)); (try (obtain ⟨hS6, hSW⟩ := hSW)); (try (obtain ⟨hS7, hSW⟩ := hSW)); (try (obtain ⟨hS8, hSW⟩ := hSW)); go_simp; (try with_reducible rfl); done)); (focus exact fun _ _ _ h => h); (focus assumption)) | (refine TR.skip _ (by simp only [List.getElem?_toArray, List.getElem?_cons_succ, List.getElem?_cons_zero]; rfl) ?_ ?_ ?_ ?_; (focus rfl); (focus exact fun _ _ _ h => h); (focus assumption))); simp only [Act.put, List.setIfInBounds_toArray, List.set_cons_zero, List.set_cons_succ])
        refine TR.done ?_
        clear hS
        have HB4 := Lib.hid (HB.out.trans (T4.out.mono (by omega)))
        have HX4 := Lib.hid ((T4.out.block g (by omega)).trans HX.out)
        have HY4 := Lib.hid ((T4.out.block (g + 1) (by omega)).trans HY.out)
        have HK4 := Lib.hid (HK.out.up (V' := w4) (Nat.le_refl _) T4.out.size (fun j _ h2 => T4.out.block j h2))
        by_cases he : e1 = 0
        · subst he
          have d1 : (((0 : Nat) : Int) == 0) = true := rfl
          have HS2 := Lib.hid (show madeP own (cs.take (k + 1)) = (o1, l1) by rw [HST.out]; unfold stepM; rw [HAP.out]; rfl)
          have HXS := Lib.hid ((setRow_other w4 (g + 1) g #[.int .i64 o1, .slice A1 n1 c1] (by omega)).trans HX4.out)
          have HYS := Lib.hid (setRow_heap w4 (g + 1) _ #[.int .i64 o1, .slice A1 n1 c1] _ _ HY4.out)
          have HBS := Lib.hid (below_setRow HB4.out (show g ≤ g + 1 by omega) #[.int .i64 o1, .slice A1 n1 c1])
          have HKS := Lib.hid (HN4.out.up (V' := (w4.setRow (g + 1) #[.int .i64 o1, .slice A1 n1 c1])) (Nat.le_refl _) (by rw [setRow_size]; exact Nat.le_refl _) (fun j h1 _ => setRow_other _ _ _ _ (by omega)))
          go_upto_region 7 with fail
          go_wp2_with (first
            | (refine wpList_load_row rfl 27 (.tmp 7) rfl g7 rfl 27 _ (0, 0) _ H74.out Try.underlying27 rfl HIM.out ?_)
            | (refine wpList_store_row rfl 27 (.tmp 5) (.tmp 28) rfl (g + 1) #[.int .i64 o1, .slice A1 n1 c1] rfl rfl 27 _ HY4.out HIM.out rfl (by simp [Value.oneCell']) ?_)
            | fail)
          go_roundw
          case rel => exact ⟨k + 1, n1, c1, o1, A1, rs1, hlt, by go_num, HBS.out, HXS.out, HYS.out, HKS.out, by rw [HS2.out, HL1.out], hn1⟩
          case measure => simp [intOf]; omega
        · have d1 : ((e1 : Int) == 0) = false := beq_eq_false_iff_ne.2 (by omega)
          have HS2 := Lib.hid (show madeP own (cs.take (k + 1)) = (own', rs'.map Rw.p) by rw [HST.out]; unfold stepM; rw [HAP.out]; exact if_neg he)
          clear he
          go_wp2_with fail
          go_roundw
          case rel => exact ⟨k + 1, n', c', own', A', rs', hlt, by go_num, HB4.out, HX4.out, HY4.out, HK4.out, HS2.out.symm, hn'⟩
          case measure => simp [intOf]; omega
      · go_simp
        have bA := (Below.refl v0.heap.size v0).alloc (Nat.le_refl _) (.cells #[.int .i64 0, .slice none 0 0] 27)
        have h0 := Lib.hid (heap_alloc_new v0 (.cells #[.int .i64 0, .slice none 0 0] 27))
        have hS1 := (⟨keepc bA hS.1, keepc bA hS.2.1, keepc bA hS.2.2.1, keepc bA hS.2.2.2.1, keepc bA hS.2.2.2.2⟩ : (v0.alloc (.cells #[.int .i64 0, .slice none 0 0] 27)).cell? ⟨g + 1, 0, none⟩ = some (.int .i64 own') ∧ (v0.alloc (.cells #[.int .i64 0, .slice none 0 0] 27)).cell? ⟨g + 1, 1, none⟩ = some (.slice A' n' c') ∧ (v0.alloc (.cells #[.int .i64 0, .slice none 0 0] 27)).cell? (ad.add (k * 3)) = some (.int .i64 kd) ∧ (v0.alloc (.cells #[.int .i64 0, .slice none 0 0] 27)).cell? ⟨(ad.add (k * 3)).block, (ad.add (k * 3)).off + 1, none⟩ = some (.string f) ∧ (v0.alloc (.cells #[.int .i64 0, .slice none 0 0] 27)).cell? ⟨(ad.add (k * 3)).block, (ad.add (k * 3)).off + 2, none⟩ = some (.int .i64 d))
        have T1 := Lib.hid (T0.out.trans (bA.mono (by omega)))
        have HK1 := Lib.hid (HKD.out.up (V' := v0.alloc (.cells #[.int .i64 0, .slice none 0 0] 27)) (Nat.le_refl _) bA.size (fun j _ h2 => bA.block j h2))
        have hz1 : (v0.alloc (.cells #[.int .i64 0, .slice none 0 0] 27)).heap.size = v0.heap.size + 1 := by simp
        refine hK.out _ _ hS1 ?_
        clear hK hS bA HKD
        (try simp only [Act.put, List.setIfInBounds_toArray, List.set_cons_zero, List.set_cons_succ])
        generalize v0.alloc (.cells #[.int .i64 0, .slice none 0 0] 27) = w1 at *
        generalize hg7 : v0.heap.size = g7 at *
        have hS := hS1
        clear hS1
        refine TR.eff _ (by simp only [List.getElem?_toArray, List.getElem?_cons_succ, List.getElem?_cons_zero]; rfl) (by rfl) (fun K hK => ?_); go_simp
        refine (HAV.out w1 HK1.out).mono ?_
        rintro e w2 ⟨A1, n1, c1, rs1, rfl, hk1, hl1, hn1, b1⟩
        have T2 := Lib.hid (T1.out.trans (b1.mono (by omega)))
        have HK2 := Lib.hid hk1
        have HL1 := Lib.hid hl1
        have hz2 := b1.size
        have h7 := Lib.hid ((b1.block g7 (by omega)).trans h0.out)
        have hS1 := (⟨keepc b1 hS.1, keepc b1 hS.2.1, keepc b1 hS.2.2.1, keepc b1 hS.2.2.2.1, keepc b1 hS.2.2.2.2⟩ : w2.cell? ⟨g + 1, 0, none⟩ = some (.int .i64 own') ∧ w2.cell? ⟨g + 1, 1, none⟩ = some (.slice A' n' c') ∧ w2.cell? (ad.add (k * 3)) = some (.int .i64 kd) ∧ w2.cell? ⟨(ad.add (k * 3)).block, (ad.add (k * 3)).off + 1, none⟩ = some (.string f) ∧ w2.cell? ⟨(ad.add (k * 3)).block, (ad.add (k * 3)).off + 2, none⟩ = some (.int .i64 d))
        clear hk1 hl1 b1 hS HAV h0
        refine hK.out _ _ hS1 ?_
        clear hK
        (try simp only [Act.put, List.setIfInBounds_toArray, List.set_cons_zero, List.set_cons_succ])
        have hS := hS1
        clear hS1
        iterate 3 ((first | (refine TR.val2 (v := ?_) _ (by simp only [List.getElem?_toArray, List.getElem?_cons_succ, List.getElem?_cons_zero]; rfl) ?_ ?_ ?_ ?_ ?_; rotate_left; (focus rfl); (focus (intro W hSW; (try dsimp only at hSW); (try (obtain ⟨hS1, hSW⟩ := hSW)); (try (obtain ⟨hS2, hSW⟩ := hSW)); (try (obtain ⟨hS3, hSW⟩ := hSW)); (try (obtain ⟨hS4, hSW⟩ := hSW)); (try (obtain ⟨hS5, hSW⟩ := hSW)); (try (obtain ⟨hS6, hSW⟩ := hSW)); (try (obtain ⟨hS7, hSW⟩ := hSW)); (try (obtain ⟨hS8, hSW⟩ := hSW)); go_simp; (try with_reducible rfl); done)); (focus exact fun _ _ _ h => h); (focus assumption)) | (refine TR.skip _ (by simp only [List.getElem?_toArray, List.getElem?_cons_succ, List.getElem?_cons_zero]; rfl) ?_ ?_ ?_ ?_; (focus rfl); (focus exact fun _ _ _ h => h); (focus assumption))); simp only [Act.put, List.setIfInBounds_toArray, List.set_cons_zero, List.set_cons_succ])
        refine TR.eff _ (by simp only [List.getElem?_toArray, List.getElem?_cons_succ, List.getElem?_cons_zero]; rfl) (by rfl) (fun K hK => ?_)
        refine wp_store_row 27 (.tmp 7) (.tmp 24) rfl g7 #[.int .i64 o1, .slice A1 n1 c1] rfl rfl 27 _ h7.out HIM.out rfl (by simp [Value.oneCell']) ?_
        have H74 := Lib.hid (setRow_heap _ g7 _ #[.int .i64 o1, .slice A1 n1 c1] _ _ h7.out)
        have T4 := Lib.hid (below_setRow T2.out (show wr.heap.size ≤ g7 by omega) #[.int .i64 o1, .slice A1 n1 c1])
        have HN5 := Lib.hid (HK2.out.up (V' := w2.setRow g7 #[.int .i64 o1, .slice A1 n1 c1]) (Nat.le_refl _) (by rw [setRow_size]; exact Nat.le_refl _) (fun j h1 _ => setRow_other _ _ _ _ (by omega)))
        have HN4 := Lib.hid (HN5.out.up (b' := g + 2) (V' := w2.setRow g7 #[.int .i64 o1, .slice A1 n1 c1]) (by omega) (Nat.le_refl _) (fun j _ _ => rfl))
        have hz4 : g + 2 ≤ g7 := by omega
        have hS2 := (⟨(World.cell?_of_block (setRow_other _ _ _ _ (by show g + 1 ≠ g7; omega))).trans hS.1, (World.cell?_of_block (setRow_other _ _ _ _ (by show g + 1 ≠ g7; omega))).trans hS.2.1, HCH.out _ T4.out⟩ : (w2.setRow g7 #[.int .i64 o1, .slice A1 n1 c1]).cell? ⟨g + 1, 0, none⟩ = some (.int .i64 own') ∧ (w2.setRow g7 #[.int .i64 o1, .slice A1 n1 c1]).cell? ⟨g + 1, 1, none⟩ = some (.slice A' n' c') ∧ (w2.setRow g7 #[.int .i64 o1, .slice A1 n1 c1]).cell? (ad.add (k * 3)) = some (.int .i64 kd) ∧ (w2.setRow g7 #[.int .i64 o1, .slice A1 n1 c1]).cell? ⟨(ad.add (k * 3)).block, (ad.add (k * 3)).off + 1, none⟩ = some (.string f) ∧ (w2.setRow g7 #[.int .i64 o1, .slice A1 n1 c1]).cell? ⟨(ad.add (k * 3)).block, (ad.add (k * 3)).off + 2, none⟩ = some (.int .i64 d))
        clear h7 hS
        generalize w2.setRow g7 #[.int .i64 o1, .slice A1 n1 c1] = w4 at *
        refine hK.out _ _ hS2 ?_
        clear hK
        (try simp only [Act.put, List.setIfInBounds_toArray, List.set_cons_zero, List.set_cons_succ])
        have hS := hS2
        clear hS2
        iterate 1 ((first | (refine TR.val2 (v := ?_) _ (by simp only [List.getElem?_toArray, List.getElem?_cons_succ, List.getElem?_cons_zero]; rfl) ?_ ?_ ?_ ?_ ?_; rotate_left; (focus rfl); (focus (intro W hSW; (try dsimp only at hSW); (try (obtain ⟨hS1, hSW⟩ := hSW)); (try (obtain ⟨hS2, hSW⟩ := hSW)); (try (obtain ⟨hS3, hSW⟩ := hSW)); (try (obtain ⟨hS4, hSW⟩ := hSW)); (try (obtain ⟨hS5, hSW⟩ := hSW)); (try (obtain ⟨hS6, hSW⟩ := hSW)); (try (obtain ⟨hS7, hSW⟩ := hSW)); (try (obtain ⟨hS8, hSW⟩ := hSW)); go_simp; (try with_reducible rfl); done)); (focus exact fun _ _ _ h => h); (focus assumption)) | (refine TR.skip _ (by simp only [List.getElem?_toArray, List.getElem?_cons_succ, List.getElem?_cons_zero]; rfl) ?_ ?_ ?_ ?_; (focus rfl); (focus exact fun _ _ _ h => h); (focus assumption))); simp only [Act.put, List.setIfInBounds_toArray, List.set_cons_zero, List.set_cons_succ])
        refine TR.done ?_
        clear hS
        have HB4 := Lib.hid (HB.out.trans (T4.out.mono (by omega)))
        have HX4 := Lib.hid ((T4.out.block g (by omega)).trans HX.out)
        have HY4 := Lib.hid ((T4.out.block (g + 1) (by omega)).trans HY.out)
        have HK4 := Lib.hid (HK.out.up (V' := w4) (Nat.le_refl _) T4.out.size (fun j _ h2 => T4.out.block j h2))
        by_cases he : e1 = 0
        · subst he
          have d1 : (((0 : Nat) : Int) == 0) = true := rfl
          have HS2 := Lib.hid (show madeP own (cs.take (k + 1)) = (o1, l1) by rw [HST.out]; unfold stepM; rw [HAP.out]; rfl)
          have HXS := Lib.hid ((setRow_other w4 (g + 1) g #[.int .i64 o1, .slice A1 n1 c1] (by omega)).trans HX4.out)
          have HYS := Lib.hid (setRow_heap w4 (g + 1) _ #[.int .i64 o1, .slice A1 n1 c1] _ _ HY4.out)
          have HBS := Lib.hid (below_setRow HB4.out (show g ≤ g + 1 by omega) #[.int .i64 o1, .slice A1 n1 c1])
          have HKS := Lib.hid (HN4.out.up (V' := (w4.setRow (g + 1) #[.int .i64 o1, .slice A1 n1 c1])) (Nat.le_refl _) (by rw [setRow_size]; exact Nat.le_refl _) (fun j h1 _ => setRow_other _ _ _ _ (by omega)))
          go_upto_region 7 with fail
          go_wp2_with (first
            | (refine wpList_load_row rfl 27 (.tmp 7) rfl g7 rfl 27 _ (0, 0) _ H74.out Try.underlying27 rfl HIM.out ?_)
            | (refine wpList_store_row rfl 27 (.tmp 5) (.tmp 28) rfl (g + 1) #[.int .i64 o1, .slice A1 n1 c1] rfl rfl 27 _ HY4.out HIM.out rfl (by simp [Value.oneCell']) ?_)
            | fail)
          go_roundw
          case rel => exact ⟨k + 1, n1, c1, o1, A1, rs1, hlt, by go_num, HBS.out, HXS.out, HYS.out, HKS.out, by rw [HS2.out, HL1.out], hn1⟩
          case measure => simp [intOf]; omega
        · have d1 : ((e1 : Int) == 0) = false := beq_eq_false_iff_ne.2 (by omega)
          have HS2 := Lib.hid (show madeP own (cs.take (k + 1)) = (own', rs'.map Rw.p) by rw [HST.out]; unfold stepM; rw [HAP.out]; exact if_neg he)
          clear he
          go_wp2_with fail
          go_roundw
          case rel => exact ⟨k + 1, n', c', own', A', rs', hlt, by go_num, HB4.out, HX4.out, HY4.out, HK4.out, HS2.out.symm, hn'⟩
          case measure => simp [intOf]; omega
    · obtain rfl : k = n := by omega
      have HS2 := Lib.hid (show madeP own cs = (own', rs'.map Rw.p) by rw [HM.out, List.take_of_length_le (by rw [HLN.out]; exact Nat.le_refl _)])
      have XS := Lib.hid (setRow_heap wr g _ #[.int .i64 own', .slice A' n' c'] _ _ HX.out)
      have BS := Lib.hid (below_setRow HB.out (Nat.le_refl _) #[.int .i64 own', .slice A' n' c'])
      have HKS := Lib.hid (HK.out.up (V' := wr.setRow g #[.int .i64 own', .slice A' n' c']) (Nat.le_refl _) (by rw [setRow_size]; exact Nat.le_refl _) (fun j h1 _ => setRow_other _ _ _ _ (by omega)))
      go_upto_region 8 with fail
      go_wp2_with (first
        | (refine wpList_load_row rfl 27 (.tmp 5) rfl (g + 1) rfl 27 _ (0, 0) _ HY.out Try.underlying27 rfl HIM.out ?_)
        | (refine wpList_store_row rfl 27 (.tmp 4) (.tmp 29) rfl g #[.int .i64 own', .slice A' n' c'] rfl rfl 27 _ HX.out HIM.out rfl (by simp [Value.oneCell']) ?_)
        | fail)
      exact bodyPost_ret (results_cell_row Try.results18 _ _ g _ #[.int .i64 own', .slice A' n' c'] _ _ rfl XS.out Try.underlying27 rfl HIM.out) rfl ⟨A', n', c', rs', by rw [HS2.out], HKS.out.rows, by rw [HS2.out], hn', hg ▸ BS.out⟩
end Go.Proofs.Ytikegnnlmfidfaa
