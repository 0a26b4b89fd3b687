/-
  Blocks: digests found in a row; Wanted.
-/
import Derived.Test.YtmaehbebpldpcaaBlkP
namespace Go.Proofs.Ytmaehbebpldpcaa
open Go.RowKit Go.Shelf
theorem srcC_len (p : Int × Int) : (srcC p).length = 2 := rfl
set_option maxRecDepth 100000 in
set_option maxHeartbeats 4000000 in
theorem index_v (A : Option Addr) (n c B : Nat) (ds : List Dg) (d : Dg) (w : World) (hr : DReads w B A n ds) (hB : B ≤ w.heap.size) (hn : n ≤ 9007199254740992) :
    Calls Try.prog 56 #[.slice A n c, .agg d.cells.toArray] w fun e w' => ∃ z : Int, e = .returned (.int .i64 z) ∧ decide (0 ≤ z) = decide (d ∈ ds) ∧ Below w.heap.size w w' := by
  have HID := Lib.hid (show (Try.prog.info? 59).map (·.size) = some 32 by kernel_rfl)
  have HR := Lib.hid hr
  have HLN := Lib.hid hr.len
  have B0 := Lib.hid ((Below.refl w.heap.size w).alloc (Nat.le_refl _) (.cells d.cells.toArray 59))
  have X0 := Lib.hid (heap_alloc_new w (.cells d.cells.toArray 59))
  have hz0 : (w.alloc (.cells d.cells.toArray 59)).heap.size = w.heap.size + 1 := by simp
  clear hr
  go_enter Try.func56, Try.ntmps56
  go_wp2_with fail
  generalize w.alloc (.cells d.cells.toArray 59) = w0 at *
  go_loopw [8] (fun i wr => ∃ k : Nat, k ≤ n ∧ i = .int .i64 (k : Int) ∧ (∀ x ∈ ds.take k, x ≠ d) ∧ Below w0.heap.size w0 wr) (fun i _ => n - (intOf i).toNat)
  case atStart => exact ⟨0, Nat.zero_le _, rfl, by simp, Below.refl _ _⟩
  case round =>
    obtain ⟨k, hk, rfl, ht, hb⟩ := hrel
    have HT := Lib.hid ht
    have HB := Lib.hid hb
    clear ht hb
    have X1 := Lib.hid ((HB.out.block w.heap.size (by omega)).trans X0.out)
    have B1 := Lib.hid (B0.out.trans (HB.out.mono (by omega)))
    by_cases hlt : k < n
    · obtain ⟨ad, x, rfl, hx, hc⟩ := HR.out.at_ hlt
      have HC := Lib.hid (hc wr (B1.out.mono hB))
      have HX := Lib.hid hx
      have k0 : (0 : Int) ≤ (k : Int) := by omega
      have he : ∀ V : World, (binOp .eql 59 (.agg d.cells.toArray) (.agg x.cells.toArray)).run Try.prog V = .ok (.bool (d.1 == x.1)) V := fun V => eqd d x V
      clear hx hc
      by_cases hdd : d.1 = x.1
      · have HN := Lib.hid (show d ∈ ds by
          have : d = x := Subtype.ext hdd
          rw [this]
          exact List.mem_of_getElem? HX.out)
        have e1 : (d.1 == x.1) = true := by simpa using hdd
        rw [e1] at he
        clear e1 hdd
        go_upto_region 4 with fail
        refine wp_region_tree (SK.one 0 false <| .one 1 false <| .one 2 false <| .one 3 false <| .one 4 false <| .one 5 false .done) (fun V => V.heap[w.heap.size]? = some (.cells d.cells.toArray 59 (0, 0)) ∧ (∀ j u, x.cells[j]? = some u → V.cell? ((ad.add (k * 32)).add j) = some u)) (by kernel_rfl) (by kernel_rfl) (by kernel_rfl) (by kernel_rfl) ?_
        have hS : wr.drew.heap[w.heap.size]? = some (.cells d.cells.toArray 59 (0, 0)) ∧ (∀ j u, x.cells[j]? = some u → wr.drew.cell? ((ad.add (k * 32)).add j) = some u) := ⟨X1.out, HC.out⟩
        refine TR.val2 (v := .agg d.cells.toArray) _ (by simp only [List.getElem?_toArray, List.getElem?_cons_zero]; rfl) ?_ ?_ ?_ ?_ ?_
        (focus rfl)
        (focus exact fun V hV => exec_load_slot 59 (.tmp 3) rfl (⟨w.heap.size, 0, none⟩) rfl d.cells _ (row_cells hV.1) Try.underlying59 rfl (HID.out.trans (by rw [Dg.cells_len])))
        (focus exact fun _ _ _ h => h)
        (focus exact hS)
        simp only [Act.put, List.setIfInBounds_toArray, List.set_cons_zero, List.set_cons_succ]
        iterate 3 ((first | (refine TR.val2 (v := ?_) _ (by simp only [List.getElem?_toArray, List.getElem?_cons_succ, List.getElem?_cons_zero]; rfl) ?_ ?_ ?_ ?_ ?_; rotate_left; (focus rfl); (focus (intro W hSW; (try dsimp only at hSW); (try (obtain ⟨hS1, hSW⟩ := hSW)); (try (obtain ⟨hS2, hSW⟩ := hSW)); (try (obtain ⟨hS3, hSW⟩ := hSW)); (try (obtain ⟨hS4, hSW⟩ := hSW)); (try (obtain ⟨hS5, hSW⟩ := hSW)); go_simp; (try with_reducible rfl); done)); (focus exact fun _ _ _ h => h); (focus assumption)) | (refine TR.skip _ (by simp only [List.getElem?_toArray, List.getElem?_cons_succ, List.getElem?_cons_zero]; rfl) ?_ ?_ ?_ ?_; (focus rfl); (focus exact fun _ _ _ h => h); (focus assumption))); simp only [Act.put, List.setIfInBounds_toArray, List.set_cons_zero, List.set_cons_succ])
        refine TR.val2 (v := .agg x.cells.toArray) _ (by simp only [List.getElem?_toArray, List.getElem?_cons_succ, List.getElem?_cons_zero]; rfl) ?_ ?_ ?_ ?_ ?_
        (focus rfl)
        (focus exact fun V hV => exec_load_slot 59 (.tmp 14) rfl (ad.add (k * 32)) rfl x.cells _ (hV.2) Try.underlying59 rfl (HID.out.trans (by rw [Dg.cells_len])))
        (focus exact fun _ _ _ h => h)
        (focus exact hS)
        simp only [Act.put, List.setIfInBounds_toArray, List.set_cons_zero, List.set_cons_succ]
        iterate 1 ((first | (refine TR.val2 (v := ?_) _ (by simp only [List.getElem?_toArray, List.getElem?_cons_succ, List.getElem?_cons_zero]; rfl) ?_ ?_ ?_ ?_ ?_; rotate_left; (focus rfl); (focus (intro W hSW; (try dsimp only at hSW); (try (obtain ⟨hS1, hSW⟩ := hSW)); (try (obtain ⟨hS2, hSW⟩ := hSW)); (try (obtain ⟨hS3, hSW⟩ := hSW)); (try (obtain ⟨hS4, hSW⟩ := hSW)); (try (obtain ⟨hS5, hSW⟩ := hSW)); go_simp; (try with_reducible rfl); done)); (focus exact fun _ _ _ h => h); (focus assumption)) | (refine TR.skip _ (by simp only [List.getElem?_toArray, List.getElem?_cons_succ, List.getElem?_cons_zero]; rfl) ?_ ?_ ?_ ?_; (focus rfl); (focus exact fun _ _ _ h => h); (focus assumption))); simp only [Act.put, List.setIfInBounds_toArray, List.set_cons_zero, List.set_cons_succ])
        refine TR.done ?_
        have B1 := Lib.hid (show Below w.heap.size w wr.drew from B1.out.drew)
        have HB := Lib.hid (show Below w0.heap.size w0 wr.drew from HB.out.drew)
        clear hS
        go_wp2
        go_ret
        exact ⟨(k : Int), rfl, by rw [decide_eq_true HN.out]; simp, B1.out⟩
      · have HN := Lib.hid (show ∀ y ∈ ds.take (k + 1), y ≠ d by
          intro y hy
          rw [List.take_add_one, HX.out] at hy
          rcases List.mem_append.1 hy with hy | hy
          · exact HT.out y hy
          · obtain rfl : y = x := by simpa using hy
            exact fun e => hdd (by rw [e]))
        have e1 : (d.1 == x.1) = false := by simpa using hdd
        rw [e1] at he
        clear e1 hdd
        go_upto_region 4 with fail
        refine wp_region_tree (SK.one 0 false <| .one 1 false <| .one 2 false <| .one 3 false <| .one 4 false <| .one 5 false .done) (fun V => V.heap[w.heap.size]? = some (.cells d.cells.toArray 59 (0, 0)) ∧ (∀ j u, x.cells[j]? = some u → V.cell? ((ad.add (k * 32)).add j) = some u)) (by kernel_rfl) (by kernel_rfl) (by kernel_rfl) (by kernel_rfl) ?_
        have hS : wr.drew.heap[w.heap.size]? = some (.cells d.cells.toArray 59 (0, 0)) ∧ (∀ j u, x.cells[j]? = some u → wr.drew.cell? ((ad.add (k * 32)).add j) = some u) := ⟨X1.out, HC.out⟩
        refine TR.val2 (v := .agg d.cells.toArray) _ (by simp only [List.getElem?_toArray, List.getElem?_cons_zero]; rfl) ?_ ?_ ?_ ?_ ?_
        (focus rfl)
        (focus exact fun V hV => exec_load_slot 59 (.tmp 3) rfl (⟨w.heap.size, 0, none⟩) rfl d.cells _ (row_cells hV.1) Try.underlying59 rfl (HID.out.trans (by rw [Dg.cells_len])))
        (focus exact fun _ _ _ h => h)
        (focus exact hS)
        simp only [Act.put, List.setIfInBounds_toArray, List.set_cons_zero, List.set_cons_succ]
        iterate 3 ((first | (refine TR.val2 (v := ?_) _ (by simp only [List.getElem?_toArray, List.getElem?_cons_succ, List.getElem?_cons_zero]; rfl) ?_ ?_ ?_ ?_ ?_; rotate_left; (focus rfl); (focus (intro W hSW; (try dsimp only at hSW); (try (obtain ⟨hS1, hSW⟩ := hSW)); (try (obtain ⟨hS2, hSW⟩ := hSW)); (try (obtain ⟨hS3, hSW⟩ := hSW)); (try (obtain ⟨hS4, hSW⟩ := hSW)); (try (obtain ⟨hS5, hSW⟩ := hSW)); go_simp; (try with_reducible rfl); done)); (focus exact fun _ _ _ h => h); (focus assumption)) | (refine TR.skip _ (by simp only [List.getElem?_toArray, List.getElem?_cons_succ, List.getElem?_cons_zero]; rfl) ?_ ?_ ?_ ?_; (focus rfl); (focus exact fun _ _ _ h => h); (focus assumption))); simp only [Act.put, List.setIfInBounds_toArray, List.set_cons_zero, List.set_cons_succ])
        refine TR.val2 (v := .agg x.cells.toArray) _ (by simp only [List.getElem?_toArray, List.getElem?_cons_succ, List.getElem?_cons_zero]; rfl) ?_ ?_ ?_ ?_ ?_
        (focus rfl)
        (focus exact fun V hV => exec_load_slot 59 (.tmp 14) rfl (ad.add (k * 32)) rfl x.cells _ (hV.2) Try.underlying59 rfl (HID.out.trans (by rw [Dg.cells_len])))
        (focus exact fun _ _ _ h => h)
        (focus exact hS)
        simp only [Act.put, List.setIfInBounds_toArray, List.set_cons_zero, List.set_cons_succ]
        iterate 1 ((first | (refine TR.val2 (v := ?_) _ (by simp only [List.getElem?_toArray, List.getElem?_cons_succ, List.getElem?_cons_zero]; rfl) ?_ ?_ ?_ ?_ ?_; rotate_left; (focus rfl); (focus (intro W hSW; (try dsimp only at hSW); (try (obtain ⟨hS1, hSW⟩ := hSW)); (try (obtain ⟨hS2, hSW⟩ := hSW)); (try (obtain ⟨hS3, hSW⟩ := hSW)); (try (obtain ⟨hS4, hSW⟩ := hSW)); (try (obtain ⟨hS5, hSW⟩ := hSW)); go_simp; (try with_reducible rfl); done)); (focus exact fun _ _ _ h => h); (focus assumption)) | (refine TR.skip _ (by simp only [List.getElem?_toArray, List.getElem?_cons_succ, List.getElem?_cons_zero]; rfl) ?_ ?_ ?_ ?_; (focus rfl); (focus exact fun _ _ _ h => h); (focus assumption))); simp only [Act.put, List.setIfInBounds_toArray, List.set_cons_zero, List.set_cons_succ])
        refine TR.done ?_
        have B1 := Lib.hid (show Below w.heap.size w wr.drew from B1.out.drew)
        have HB := Lib.hid (show Below w0.heap.size w0 wr.drew from HB.out.drew)
        clear hS
        go_wp2
        go_roundw
        case rel => exact ⟨k + 1, hlt, by go_num, HN.out, HB.out⟩
        case measure => simp [intOf]; omega
    · obtain rfl : k = n := by omega
      have HN := Lib.hid (show decide (d ∈ ds) = false by
        rw [decide_eq_false_iff_not]
        intro h
        have h1 := HT.out
        rw [List.take_of_length_le (by rw [HLN.out]; exact Nat.le_refl _)] at h1
        exact h1 d h rfl)
      go_wp2
      go_ret
      exact ⟨-1, rfl, by rw [HN.out]; rfl, B1.out⟩
set_option maxRecDepth 100000 in
set_option maxHeartbeats 4000000 in
theorem contains_v (A : Option Addr) (n c B : Nat) (ds : List Dg) (d : Dg) (w : World) (hr : DReads w B A n ds) (hB : B ≤ w.heap.size) (hn : n ≤ 9007199254740992) :
    Calls Try.prog 42 #[.slice A n c, .agg d.cells.toArray] w fun e w' => e = .returned (.bool (decide (d ∈ ds))) ∧ Below w.heap.size w w' := by
  have HID := Lib.hid (show (Try.prog.info? 59).map (·.size) = some d.cells.toArray.size by simp only [List.size_toArray, Dg.cells_len]; kernel_rfl)
  have HR := Lib.hid hr
  have B0 := Lib.hid ((Below.refl w.heap.size w).alloc (Nat.le_refl _) (.cells d.cells.toArray 59))
  have X0 := Lib.hid (heap_alloc_new w (.cells d.cells.toArray 59))
  clear hr
  go_enter Try.func42, Try.ntmps42
  go_wp2_with (first
    | (refine wpList_load_row rfl 59 (.tmp 3) rfl w.heap.size rfl 59 _ (0, 0) _ X0.out Try.underlying59 rfl HID.out ?_)
    | fail)
  refine (index_v A n c B ds d _ (HR.out.below (B0.out.mono hB)) (Nat.le_trans hB B0.out.size) hn).mono ?_
  rintro e w1 ⟨z, rfl, hz, b1⟩
  have HZ := Lib.hid hz
  clear hz
  go_wp2
  go_ret
  exact ⟨by rw [← HZ.out]; rfl, B0.out.trans (b1.mono B0.out.size)⟩
/-- The digests that are wanted. -/
def wantF (z : List ((Int × Int) × Dg)) : List Dg := z.foldl (fun out p => if p.1.1 = -1 ∧ p.2 ∉ out then out ++ [p.2] else out) []
def wantP (ps : List (Int × Int)) (dl : List Dg) : List Dg := if ps.length = dl.length then wantF (ps.zip dl) else []
theorem wantF_snoc (z : List ((Int × Int) × Dg)) (p : (Int × Int) × Dg) : wantF (z ++ [p]) = if p.1.1 = -1 ∧ p.2 ∉ wantF z then wantF z ++ [p.2] else wantF z := by
  unfold wantF
  rw [List.foldl_append]
  rfl
theorem wantF_len : ∀ n (z : List ((Int × Int) × Dg)), z.length = n → (wantF z).length ≤ n
  | 0, z, h => by
    have : z = [] := List.eq_nil_of_length_eq_zero h
    subst this
    exact Nat.le_refl _
  | n + 1, z, h => by
    obtain ⟨y, p, rfl⟩ : ∃ y p, z = y ++ [p] := ⟨z.dropLast, z.getLast (by intro e; subst e; cases h), (List.dropLast_concat_getLast (by intro e; subst e; cases h)).symm⟩
    have h2 := wantF_len n y (by simpa using h)
    rw [wantF_snoc]
    split
    · rw [List.length_append]; simp; omega
    · omega
theorem want_step {ps : List (Int × Int)} {dl : List Dg} {k : Nat} {p : Int × Int} {d : Dg} (h1 : ps[k]? = some p) (h2 : dl[k]? = some d) : (ps.zip dl).take (k + 1) = (ps.zip dl).take k ++ [(p, d)] := by
  rw [List.take_add_one, (List.getElem?_zip_eq_some (z := (p, d))).2 ⟨h1, h2⟩]
  rfl
set_option maxRecDepth 100000 in
set_option maxHeartbeats 8000000 in
theorem wanted_v (sl ll : Int) (al : Option Addr) (nl cl : Nat) (dl : List Dg) (ps : List (Int × Int)) (A : Option Addr) (m c B : Nat) (w : World)
    (hp : Reads w B 2 A m (ps.flatMap srcC)) (hd : DReads w B al nl dl) (hB : B ≤ w.heap.size) (hm : m ≤ 100000) (hnl : nl ≤ 9007199254740992) :
    Calls Try.prog 27 #[.slice A m c, .agg #[.int .i64 sl, .int .i64 ll, .slice al nl cl]] w fun e w' => ∃ A' c', e = .returned (.slice A' (wantP ps dl).length c') ∧ w'.ownsRow w.heap.size 59 32 (.slice A' (wantP ps dl).length c') (wantP ps dl).length ((wantP ps dl).flatMap Dg.cells) ∧ Below w.heap.size w w' := by
  have HID := Lib.hid (show (Try.prog.info? 59).map (·.size) = some 32 by kernel_rfl)
  have HIS := Lib.hid (show (Try.prog.info? 47).map (·.size) = some 2 by kernel_rfl)
  have HP := Lib.hid hp
  have HD := Lib.hid hd
  have HLP := Lib.hid (show ps.length = m by have h1 := hp.1; rw [flat_len srcC_len] at h1; omega)
  have HLD := Lib.hid hd.len
  have B0 := Lib.hid ((Below.refl w.heap.size w).alloc (Nat.le_refl _) (.cells #[.int .i64 sl, .int .i64 ll, .slice al nl cl] 24))
  have X0 := Lib.hid (heap_alloc_new w (.cells #[.int .i64 sl, .int .i64 ll, .slice al nl cl] 24))
  have hz0 : (w.alloc (.cells #[.int .i64 sl, .int .i64 ll, .slice al nl cl] 24)).heap.size = w.heap.size + 1 := by simp
  have c2 : (w.alloc (.cells #[.int .i64 sl, .int .i64 ll, .slice al nl cl] 24)).cell? ⟨w.heap.size, 2, none⟩ = some (.slice al nl cl) := by rw [cell_of_row _ _ 2 _ _ _ X0.out]; rfl
  clear hp hd
  go_enter Try.func27, Try.ntmps27
  by_cases hmn : m = nl
  case neg =>
    have d1 : ((m : Int) != (nl : Int)) = true := by rw [bne_iff_ne]; omega
    have HW := Lib.hid (show wantP ps dl = [] by unfold wantP; rw [if_neg (by rw [HLP.out, HLD.out]; exact hmn)])
    rw [HW.out]
    go_wp2
    go_ret
    exact ⟨none, 0, rfl, World.ownsRow_nil _ _ _ 32, B0.out⟩
  subst hmn
  have HW := Lib.hid (show wantP ps dl = wantF ((ps.zip dl).take m) by
    unfold wantP
    rw [if_pos (by rw [HLP.out, HLD.out]), List.take_of_length_le (by rw [List.length_zip, HLP.out, HLD.out]; omega)])
  rw [HW.out]
  go_wp2_with fail
  generalize w.alloc (.cells #[.int .i64 sl, .int .i64 ll, .slice al m cl] 24) = w0 at *
  go_loopw [5, 17] (fun o i wr => ∃ (k r : Nat) (A' : Option Addr) (c' : Nat), k ≤ m ∧ i = .int .i64 (k : Int) ∧ (wantF ((ps.zip dl).take k)).length = r ∧ o = .slice A' r c' ∧ DOwn wr w0.heap.size A' r c' (wantF ((ps.zip dl).take k)) ∧ Below w0.heap.size w0 wr) (fun _ i _ => m - (intOf i).toNat)
  case atStart => exact ⟨0, 0, none, 0, Nat.zero_le _, rfl, rfl, rfl, World.ownsRow_nil _ _ _ 32, Below.refl _ _⟩
  case round =>
    obtain ⟨k, r, A', c', hk, rfl, hrl, rfl, ho, hb⟩ := hrel
    have HO := Lib.hid ho
    have HB := Lib.hid hb
    have HRL := Lib.hid hrl
    have hrk : r ≤ k := by
      rw [← hrl]
      exact wantF_len k _ (by rw [List.length_take, List.length_zip, HLP.out, HLD.out]; omega)
    clear ho hb hrl
    have X1 := Lib.hid ((HB.out.block w.heap.size (by omega)).trans X0.out)
    have B1 := Lib.hid (B0.out.trans (HB.out.mono (by omega)))
    have hzb := HB.out.size
    by_cases hlt : k < m
    · obtain ⟨ad, d, rfl, hd, hc⟩ := HD.out.at_ hlt
      obtain ⟨pd, rfl, hpb, hpc⟩ := HP.out.2 (by omega)
      obtain ⟨p, hp⟩ : ∃ p, ps[k]? = some p := ⟨_, List.getElem?_eq_getElem (by rw [HLP.out]; exact hlt)⟩
      have HST := Lib.hid (want_step hp hd)
      have PC := Lib.hid (show ∀ j v, (srcC p)[j]? = some v → wr.cell? ((pd.add (k * 2)).add j) = some v from fun j v hv' => by
        have hj : j < 2 := by have := (List.getElem?_eq_some_iff.1 hv').1; rwa [srcC_len] at this
        have h1 := hpc (k * 2 + j) v (by rw [flat_at srcC_len ps hp hj]; exact hv')
        rw [add_of_add]
        refine ((B1.out.mono hB).cell ?_).trans h1
        rw [block_of_add]
        exact hpb)
      have HC := Lib.hid (fun V (hV : Below w.heap.size w V) => hc V (hV.mono hB))
      have k0 : (0 : Int) ≤ (k : Int) := by omega
      have c2 : (wr.alloc (.cells #[.int .i64 p.1, .int .i64 p.2] 47)).cell? ⟨w.heap.size, 2, none⟩ = some (.slice (some ad) m cl) := by rw [cell_of_row _ _ 2 _ _ _ ((Below.heap_alloc wr _ w.heap.size (by omega)).trans X1.out)]; rfl
      have BS := Lib.hid (B1.out.alloc B1.out.size (.cells #[.int .i64 p.1, .int .i64 p.2] 47))
      have S1 := Lib.hid (heap_alloc_new wr (.cells #[.int .i64 p.1, .int .i64 p.2] 47))
      have hz1 : (wr.alloc (.cells #[.int .i64 p.1, .int .i64 p.2] 47)).heap.size = wr.heap.size + 1 := by simp
      have Z0 := Lib.hid (heap_alloc_new (wr.alloc (.cells #[.int .i64 p.1, .int .i64 p.2] 47)) (.cells #[Value.int .u8 0, Value.int .u8 0, Value.int .u8 0, Value.int .u8 0, Value.int .u8 0, Value.int .u8 0, Value.int .u8 0, Value.int .u8 0, Value.int .u8 0, Value.int .u8 0, Value.int .u8 0, Value.int .u8 0, Value.int .u8 0, Value.int .u8 0, Value.int .u8 0, Value.int .u8 0, Value.int .u8 0, Value.int .u8 0, Value.int .u8 0, Value.int .u8 0, Value.int .u8 0, Value.int .u8 0, Value.int .u8 0, Value.int .u8 0, Value.int .u8 0, Value.int .u8 0, Value.int .u8 0, Value.int .u8 0, Value.int .u8 0, Value.int .u8 0, Value.int .u8 0, Value.int .u8 0] 59))
      rw [hz1] at Z0
      have Z1 := Lib.hid (setRow_heap _ (wr.heap.size + 1) _ d.cells.toArray _ _ Z0.out)
      have BZ := Lib.hid (below_setRow ((Below.refl (wr.heap.size + 1) (wr.alloc (.cells #[.int .i64 p.1, .int .i64 p.2] 47))).alloc (by omega) (.cells #[Value.int .u8 0, Value.int .u8 0, Value.int .u8 0, Value.int .u8 0, Value.int .u8 0, Value.int .u8 0, Value.int .u8 0, Value.int .u8 0, Value.int .u8 0, Value.int .u8 0, Value.int .u8 0, Value.int .u8 0, Value.int .u8 0, Value.int .u8 0, Value.int .u8 0, Value.int .u8 0, Value.int .u8 0, Value.int .u8 0, Value.int .u8 0, Value.int .u8 0, Value.int .u8 0, Value.int .u8 0, Value.int .u8 0, Value.int .u8 0, Value.int .u8 0, Value.int .u8 0, Value.int .u8 0, Value.int .u8 0, Value.int .u8 0, Value.int .u8 0, Value.int .u8 0, Value.int .u8 0] 59)) (Nat.le_refl _) d.cells.toArray)
      have hcl : d.cells.toArray.size = 32 := by simp [Dg.cells_len]
      have HCS := Lib.hid hcl
      have HC1 := Lib.hid (HC.out _ BS.out)
      clear hd hp hc hpc hcl
      go_upto_region 8 with (first
        | (refine wpList_load_slot rfl 47 (.tmp 20) rfl (pd.add (k * 2)) rfl [.int .i64 p.1, .int .i64 p.2] _ PC.out Try.underlying47 rfl HIS.out ?_)
        | (refine wpList_load_slot rfl 59 (.tmp 25) rfl (ad.add (k * 32)) rfl d.cells _ HC1.out Try.underlying59 rfl (HID.out.trans (by rw [Dg.cells_len])) ?_)
        | (refine wpList_store_row rfl 59 (.tmp 8) (.tmp 26) rfl (wr.heap.size + 1) d.cells.toArray rfl rfl 59 _ Z0.out (by rw [HCS.out]; exact HID.out) (by rw [HCS.out]; rfl) (all1_dg _) ?_)
        | fail)
      have B2 := Lib.hid (show Below wr.heap.size wr (((wr.alloc (.cells #[.int .i64 p.1, .int .i64 p.2] 47)).alloc (.cells #[Value.int .u8 0, Value.int .u8 0, Value.int .u8 0, Value.int .u8 0, Value.int .u8 0, Value.int .u8 0, Value.int .u8 0, Value.int .u8 0, Value.int .u8 0, Value.int .u8 0, Value.int .u8 0, Value.int .u8 0, Value.int .u8 0, Value.int .u8 0, Value.int .u8 0, Value.int .u8 0, Value.int .u8 0, Value.int .u8 0, Value.int .u8 0, Value.int .u8 0, Value.int .u8 0, Value.int .u8 0, Value.int .u8 0, Value.int .u8 0, Value.int .u8 0, Value.int .u8 0, Value.int .u8 0, Value.int .u8 0, Value.int .u8 0, Value.int .u8 0, Value.int .u8 0, Value.int .u8 0] 59)).setRow (wr.heap.size + 1) d.cells.toArray) from ((Below.refl wr.heap.size wr).alloc (Nat.le_refl _) _).trans (BZ.out.mono (Nat.le_succ _)))
      have S2 := Lib.hid ((BZ.out.block wr.heap.size (Nat.lt_succ_self _)).trans S1.out)
      generalize ((wr.alloc (.cells #[.int .i64 p.1, .int .i64 p.2] 47)).alloc (.cells #[Value.int .u8 0, Value.int .u8 0, Value.int .u8 0, Value.int .u8 0, Value.int .u8 0, Value.int .u8 0, Value.int .u8 0, Value.int .u8 0, Value.int .u8 0, Value.int .u8 0, Value.int .u8 0, Value.int .u8 0, Value.int .u8 0, Value.int .u8 0, Value.int .u8 0, Value.int .u8 0, Value.int .u8 0, Value.int .u8 0, Value.int .u8 0, Value.int .u8 0, Value.int .u8 0, Value.int .u8 0, Value.int .u8 0, Value.int .u8 0, Value.int .u8 0, Value.int .u8 0, Value.int .u8 0, Value.int .u8 0, Value.int .u8 0, Value.int .u8 0, Value.int .u8 0, Value.int .u8 0] 59)).setRow (wr.heap.size + 1) d.cells.toArray = V2 at *
      have c7 : V2.cell? ⟨wr.heap.size, 0, none⟩ = some (.int .i64 p.1) := by rw [cell_of_row _ _ 0 _ _ _ S2.out]; rfl
      have hz2 : wr.heap.size + 1 < V2.heap.size := (Array.getElem?_eq_some_iff.1 Z1.out).1
      have HBV := Lib.hid (HB.out.trans (B2.out.mono hzb))
      have HOV := Lib.hid (own_keep' HO.out (fun j hj => B2.out.block j (HO.out.lt j hj).2))
      clear Z0 BZ PC HC1 BS S1 hz1 c2
      by_cases hp1 : p.1 = -1
      · have e1 : (p.1 == -1) = true := by simpa using hp1
        have e2 : decide (p.1 = -1) = true := by simpa using hp1
        have HP1 := Lib.hid hp1
        clear hp1
        go_wp2_with (first
          | (refine wpList_load_slot rfl 59 (.tmp 8) rfl ⟨wr.heap.size + 1, 0, none⟩ rfl d.cells _ (row_cells Z1.out) Try.underlying59 rfl (HID.out.trans (by rw [Dg.cells_len])) ?_)
          | fail)
        refine (contains_v A' r c' V2.heap.size (wantF ((ps.zip dl).take k)) d V2 (DReads.of_own HOV.out) (Nat.le_refl _) (by omega)).mono ?_
        rintro e V3 ⟨rfl, b3⟩
        have hz3 := b3.size
        have HBW := Lib.hid (HBV.out.trans (b3.mono (by have := HBV.out.size; omega)))
        have HOW := Lib.hid (own_keep' HOV.out (fun j hj => b3.block j (HOV.out.lt j hj).2))
        have Z3 := Lib.hid ((b3.block (wr.heap.size + 1) hz2).trans Z1.out)
        clear b3 Z1 S2 c7 HOV HBV
        by_cases hin : d ∈ wantF ((ps.zip dl).take k)
        · have HN := Lib.hid (show wantF ((ps.zip dl).take (k + 1)) = wantF ((ps.zip dl).take k) by rw [HST.out, wantF_snoc, if_neg (fun h => h.2 hin)])
          have e3 : decide (d ∈ wantF ((ps.zip dl).take k)) = true := decide_eq_true hin
          rw [e3]
          clear e3 hin
          go_wp2_with fail
          go_roundw
          case rel => exact ⟨k + 1, r, A', c', hlt, by go_num, by rw [HN.out]; exact HRL.out, rfl, by rw [HN.out]; exact HOW.out, HBW.out⟩
          case measure => simp [intOf]; omega
        · have HN := Lib.hid (show wantF ((ps.zip dl).take (k + 1)) = wantF ((ps.zip dl).take k) ++ [d] by rw [HST.out, wantF_snoc, if_pos ⟨HP1.out, hin⟩])
          have e3 : decide (d ∈ wantF ((ps.zip dl).take k)) = false := decide_eq_false hin
          rw [e3]
          clear e3 hin
          have DR := Lib.hid (show DReads (V3.alloc (.cells d.cells.toArray 59)) (V3.heap.size + 1) (some ⟨V3.heap.size, 0, none⟩) 1 [d] from
            ⟨by simp [Dg.cells_len], fun _ => ⟨_, rfl, Nat.lt_succ_self _, fun j u hu => by rw [add_head, cell_new]; simpa using hu⟩⟩)
          have HOX := Lib.hid (show DOwn (V3.alloc (.cells d.cells.toArray 59)) w0.heap.size A' r c' (wantF ((ps.zip dl).take k)) from HOW.out.alloc _)
          have hbw := HBW.out.size
          have HBX := Lib.hid (HBW.out.alloc HBW.out.size (.cells d.cells.toArray 59))
          go_wp2_with (first
            | (refine wpList_load_slot rfl 59 (.tmp 8) rfl ⟨wr.heap.size + 1, 0, none⟩ rfl d.cells _ (row_cells Z3.out) Try.underlying59 rfl (HID.out.trans (by rw [Dg.cells_len])) ?_)
            | (refine wpList_plain rfl fun K hK => wp_build_dg (.tmp 37) rfl d rfl (hK _ _ ?_))
            | (refine wpList_plain rfl fun K hK => wp_dapp (.tmp 36) (.tmp 38) rfl w0.heap.size A' r c' (wantF ((ps.zip dl).take k)) rfl HOX.out (V3.heap.size + 1) (some ⟨V3.heap.size, 0, none⟩) 1 1 [d] rfl DR.out (by omega) (by simp; omega) (fun A5 c5 w5 ho5 hg5 => hK _ _ ?_))
            | fail)
          have HB5 := Lib.hid (below_dapp HBX.out hg5 HOX.out (Nat.le_refl _) (by simp; omega))
          have HO5 := Lib.hid ho5
          clear ho5 hg5
          go_roundw
          case rel => exact ⟨k + 1, r + 1, A5, c5, hlt, by go_num, by rw [HN.out, List.length_append, HRL.out]; rfl, rfl, by rw [HN.out]; exact HO5.out, HB5.out⟩
          case measure => simp [intOf]; omega
      · have HN := Lib.hid (show wantF ((ps.zip dl).take (k + 1)) = wantF ((ps.zip dl).take k) by rw [HST.out, wantF_snoc, if_neg (fun h => hp1 h.1)])
        have e1 : (p.1 == -1) = false := by simpa using hp1
        have e2 : decide (p.1 = -1) = false := by simpa using hp1
        clear hp1
        go_wp2_with fail
        go_roundw
        case rel => exact ⟨k + 1, r, A', c', hlt, by go_num, by rw [HN.out]; exact HRL.out, rfl, by rw [HN.out]; exact HOV.out, HBV.out⟩
        case measure => simp [intOf]; omega
    · obtain rfl : k = m := by omega
      have HOE := Lib.hid (own_down' HO.out (show w.heap.size ≤ w0.heap.size by omega))
      rw [← HRL.out] at HOE
      go_wp2_with fail
      go_ret
      exact ⟨A', c', by rw [HRL.out]; rfl, HOE.out, B1.out⟩
end Go.Proofs.Ytmaehbebpldpcaa
