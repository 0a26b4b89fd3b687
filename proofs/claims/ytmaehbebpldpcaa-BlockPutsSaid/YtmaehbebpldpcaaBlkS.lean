/-
  Blocks: the reference's source.
-/
import Derived.Test.YtmaehbebpldpcaaBlkQ
namespace Go.Proofs.Ytmaehbebpldpcaa
open Go.RowKit Go.Shelf
theorem lk_none_app {q : Kd} : ∀ {a b : List (Kd × (Int × Int))}, lk q a = none → lk q (a ++ b) = lk q b
  | [], _, _ => rfl
  | p :: a, b, h => by
    by_cases hp : p.1 = q
    · have h2 : lk q (p :: a) = some p.2 := if_pos hp
      rw [h2] at h
      cases h
    · have h2 : lk q (p :: a) = lk q a := if_neg hp
      have h3 : lk q (p :: (a ++ b)) = lk q (a ++ b) := if_neg hp
      rw [h2] at h
      exact h3.trans (lk_none_app h)
theorem lk_snoc {q : Kd} {a : List (Kd × (Int × Int))} {p : Kd × (Int × Int)} (h : lk q a = none) (hp : p.1 ≠ q) : lk q (a ++ [p]) = none := by
  rw [lk_none_app h]
  unfold lk
  rw [if_neg hp]
  rfl
/-- All entries of lists. -/
def entsA (hv : List LX) (m : Nat) : List (Kd × (Int × Int)) := (List.range m).flatMap fun f => entsOf f (gD hv f)
theorem entsA_succ (hv : List LX) (f : Nat) : entsA hv (f + 1) = entsA hv f ++ entsOf f (gD hv f) := by simp [entsA, List.range_succ]
theorem entsA_more (hv : List LX) (f : Nat) : ∀ b, ∃ r, entsA hv (f + b) = entsA hv f ++ r
  | 0 => ⟨[], by simp⟩
  | b + 1 => by
    obtain ⟨r, hr⟩ := entsA_more hv f b
    exact ⟨r ++ entsOf (f + b) (gD hv (f + b)), by rw [← Nat.add_assoc, entsA_succ, hr, List.append_assoc]⟩
theorem entsOf_at {f k : Nat} {x : LX} (hk : k < x.v.n) : (entsOf f x)[k]? = some ((gD x.ds k, lenP x k), ((f : Int), (k : Int))) := by
  unfold entsOf
  rw [List.getElem?_map, List.getElem?_range hk]
  rfl
theorem entsOf_take {f k : Nat} {x : LX} (hk : k < x.v.n) : (entsOf f x).take (k + 1) = (entsOf f x).take k ++ [((gD x.ds k, lenP x k), ((f : Int), (k : Int)))] := by
  rw [List.take_add_one, entsOf_at hk]
  rfl
theorem entsOf_len (f : Nat) (x : LX) : (entsOf f x).length = x.v.n := by simp [entsOf]
/-- The first source. -/
theorem lk_found {hv : List LX} {m f k : Nat} {q : Kd} (hf : f < m) (hk : k < (gD hv f).v.n) (h1 : lk q (entsA hv f) = none) (h2 : lk q ((entsOf f (gD hv f)).take k) = none) (h3 : (gD (gD hv f).ds k, lenP (gD hv f) k) = q) : lk q (entsA hv m) = some ((f : Int), (k : Int)) := by
  obtain ⟨r, hr⟩ := entsA_more hv (f + 1) (m - (f + 1))
  rw [show f + 1 + (m - (f + 1)) = m by omega, entsA_succ] at hr
  rw [hr, List.append_assoc, lk_none_app h1]
  have e : entsOf f (gD hv f) = (entsOf f (gD hv f)).take k ++ (((gD (gD hv f).ds k, lenP (gD hv f) k), ((f : Int), (k : Int))) :: (entsOf f (gD hv f)).drop (k + 1)) := by
    conv => lhs; rw [← List.take_append_drop (k + 1) (entsOf f (gD hv f)), entsOf_take hk]
    rw [List.append_assoc]
    rfl
  rw [e, List.append_assoc, lk_none_app h2]
  exact if_pos h3
theorem results_row1 {P : Program} {fn : Func} {p : Tmp} {ty : TypeId} (h : fn.results = #[.cell p ty]) (tmps : Array Value) (w : World) (g : Nat) (t : TypeId) (cs : Array Value) (fr : Nat × Nat) (d : TypeDesc)
    (hp : tmps.getD p undef = .pointer (some ⟨g, 0, none⟩)) (hg : w.heap[g]? = some (.cells cs t fr))
    (hu : P.underlying ty = some d) (hd : (match d with | .struct _ | .array _ _ => true | _ => false) = true) (hi : (P.info? ty).map (·.size) = some cs.size) :
    (results fn tmps).run P w = .ok (.agg cs) w := by
  have hp' : tmps[p]?.getD undef = .pointer (some ⟨g, 0, none⟩) := by simpa using hp
  simp [results, h, hp', asAddr, run_loadVar_row w g t ty cs fr d hg hu hd hi]
theorem two_cells {w : World} {g : Nat} {t : TypeId} {a b x y : Value} (h : w.heap[g]? = some (.cells #[a, b] t (0, 0))) : ((w.setCell ⟨g, 0, none⟩ x).setCell ⟨g, 1, none⟩ y).drew.heap[g]? = some (.cells #[x, y] t (0, 0)) :=
  heap_setCell_same _ g 1 _ _ y (heap_setCell_same w g 0 _ _ x h)
set_option maxRecDepth 100000 in
set_option maxHeartbeats 8000000 in
theorem source_v (d : Dg) (n : Int) (hv : List LX) (A : Option Addr) (m c B : Nat) (w : World) (hr : Reads w B 3 A m (hv.flatMap LX.cells)) (hB : B ≤ w.heap.size) (hm : m ≤ 1000)
    (hh : ∀ x ∈ hv, DReads w B x.v.a x.v.n x.ds ∧ x.v.n ≤ 1100) (hck : ∀ x ∈ hv, x.chk = 0) :
    Calls Try.prog 43 #[.agg d.cells.toArray, .int .i64 n, .slice A m c] w fun e w' => e = .returned (.agg #[.int .i64 ((lk (d, n) (entsA hv m)).getD (-1, 0)).1, .int .i64 ((lk (d, n) (entsA hv m)).getD (-1, 0)).2]) ∧ Below w.heap.size w w' := by
  have HID := Lib.hid (show (Try.prog.info? 59).map (·.size) = some 32 by kernel_rfl)
  have HI := Lib.hid (show (Try.prog.info? 24).map (·.size) = some 3 by kernel_rfl)
  have HR := Lib.hid hr
  have HH := Lib.hid hh
  have HCK := Lib.hid hck
  have HLN := Lib.hid (show hv.length = m by have h1 := hr.1; rw [flat_len LX.cells_len] at h1; omega)
  have B0 := Lib.hid (((Below.refl w.heap.size w).alloc (Nat.le_refl _) (.cells d.cells.toArray 59)).alloc (by simp) (.cells #[.int .i64 0, .int .i64 0] 47))
  have X0 := Lib.hid ((Below.heap_alloc (w.alloc (.cells d.cells.toArray 59)) (.cells #[.int .i64 0, .int .i64 0] 47) w.heap.size (by simp)).trans (heap_alloc_new w (.cells d.cells.toArray 59)))
  have Y0 := Lib.hid (show ((w.alloc (.cells d.cells.toArray 59)).alloc (.cells #[.int .i64 0, .int .i64 0] 47)).heap[w.heap.size + 1]? = some (.cells #[.int .i64 0, .int .i64 0] 47 (0, 0)) by have h := heap_alloc_new (w.alloc (.cells d.cells.toArray 59)) (.cells #[.int .i64 0, .int .i64 0] 47); rwa [World.size_alloc] at h)
  have hz0 : ((w.alloc (.cells d.cells.toArray 59)).alloc (.cells #[.int .i64 0, .int .i64 0] 47)).heap.size = w.heap.size + 2 := by simp
  clear hr hh hck
  go_enter Try.func43, Try.ntmps43
  go_wp2_with fail
  generalize (w.alloc (.cells d.cells.toArray 59)).alloc (.cells #[.int .i64 0, .int .i64 0] 47) = w0 at *
  go_loopw [7] (fun i wr => ∃ f : Nat, f ≤ m ∧ i = .int .i64 (f : Int) ∧ lk (d, n) (entsA hv f) = none ∧ Below w0.heap.size w0 wr) (fun i _ => m - (intOf i).toNat)
  case atStart => exact ⟨0, Nat.zero_le _, rfl, rfl, Below.refl _ _⟩
  case round =>
    obtain ⟨f, hf, rfl, hl, hb⟩ := hrel
    have HL := Lib.hid hl
    have HB := Lib.hid hb
    have hzb := hb.size
    clear hl hb
    by_cases hlt : f < m
    · obtain ⟨ad, rfl, hbl, hcell⟩ := HR.out.2 (by omega)
      obtain ⟨x, hx⟩ : ∃ x, gD hv f = x := ⟨_, rfl⟩
      have hxs : hv[f]? = some x := by rw [← hx]; exact gD_some (by rw [HLN.out]; exact hlt)
      have HX := Lib.hid hx
      have hmem := List.mem_of_getElem? hxs
      have HY := Lib.hid (HH.out x hmem)
      have HYC := Lib.hid (HCK.out x hmem)
      have HC := Lib.hid (show ∀ V, Below w.heap.size w V → ∀ j v, x.cells[j]? = some v → V.cell? ((ad.add (f * 3)).add j) = some v from fun V hV j v hv' => by
        have hj : j < 3 := by have := (List.getElem?_eq_some_iff.1 hv').1; rwa [LX.cells_len] at this
        have h1 := hcell (f * 3 + j) v (by rw [flat_at LX.cells_len hv hxs hj]; exact hv')
        rw [add_of_add]
        refine ((hV.mono hB).cell ?_).trans h1
        rw [block_of_add]
        exact hbl)
      have k0 : (0 : Int) ≤ (f : Int) := by omega
      clear hx hxs hmem hcell
      go_wp2_with fail
      go_loopw [8] (fun i V => ∃ k : Nat, k ≤ x.v.n ∧ i = .int .i64 (k : Int) ∧ lk (d, n) ((entsOf f x).take k) = none ∧ Below w0.heap.size w0 V) (fun i _ => x.v.n - (intOf i).toNat)
      case atStart => exact ⟨0, Nat.zero_le _, rfl, by rw [List.take_zero]; rfl, HB.out⟩
      case round =>
        obtain ⟨k, hk, rfl, hl2, hb2⟩ := hrel
        have HL2 := Lib.hid hl2
        have HB2 := Lib.hid hb2
        have hzb2 := hb2.size
        have BW := Lib.hid (B0.out.trans (hb2.mono (by omega)))
        have c2 : wr.cell? ⟨(ad.add (f * 3)).block, (ad.add (f * 3)).off + 2, none⟩ = some (.slice x.v.a x.v.n x.v.c) := HC.out wr BW.out 2 _ rfl
        clear hl2 hb2
        by_cases hlt2 : k < x.v.n
        · obtain ⟨dd, y, hA, hy, hc⟩ := HY.out.1.at_ hlt2
          rw [hA] at c2
          have HYG := Lib.hid (show gD x.ds k = y by
            have h := gD_some (ls := x.ds) (k := k) (by rw [HY.out.1.len]; exact hlt2)
            rw [hy] at h
            exact (Option.some.inj h).symm)
          have HDC := Lib.hid (fun V (hV : Below w.heap.size w V) => hc V (hV.mono hB))
          have HC1 := Lib.hid (HC.out wr BW.out)
          have HXA := Lib.hid hA
          obtain ⟨q1, q2, q3, q4, q5, q6⟩ := chk_ok (show Proofs.Ytmaehbebpldpcaa.chk x.v.sz x.v.ln x.v.n = 0 from HYC.out)
          have KL := chk_last (show Proofs.Ytmaehbebpldpcaa.chk x.v.sz x.v.ln x.v.n = 0 from HYC.out) (k := (k : Int)) (by omega) (by omega)
          have TL := toP_lo (k := (k : Int)) q1 (by omega) KL.1
          have TH : toP x.v.sz x.v.ln (k : Int) ≤ x.v.ln := by unfold toP; omega
          have AP := Lib.hid (show atP x.v.sz x.v.ln x.v.n (k : Int) = ((k : Int) * x.v.sz, toP x.v.sz x.v.ln (k : Int), true) by
            unfold atP
            rw [if_pos ⟨HYC.out, by omega, by omega⟩])
          have HLP := Lib.hid (show lenP x k = toP x.v.sz x.v.ln (k : Int) - (k : Int) * x.v.sz from rfl)
          have HXN := Lib.hid (show x.cells = [.int .i64 x.v.sz, .int .i64 x.v.ln, .slice (some dd) x.v.n x.v.c] by rw [← hA]; rfl)
          rw [HXN.out] at HC1
          have k1 : (0 : Int) ≤ (k : Int) := by omega
          have hn2 : x.v.n ≤ 9007199254740992 := by omega
          clear hy hc q3 q6 hA
          go_wp2_with (first
            | (refine wpList_load_slot rfl 24 (.tmp 31) rfl (ad.add (f * 3)) rfl [.int .i64 x.v.sz, .int .i64 x.v.ln, .slice (some dd) x.v.n x.v.c] _ HC1.out Try.underlying24 rfl HI.out ?_)
            | fail)
          refine (rat_v x.v.sz x.v.ln (k : Int) (some dd) x.v.n x.v.c wr hn2).mono ?_
          rw [AP.out]
          rintro e w2 ⟨rfl, b2⟩
          have BW2 := Lib.hid (BW.out.trans (b2.mono (by have := BW.out.size; omega)))
          have HB3 := Lib.hid (HB2.out.trans (b2.mono hzb2))
          have X2 := Lib.hid ((HB3.out.block w.heap.size (by omega)).trans X0.out)
          have Y2 := Lib.hid ((HB3.out.block (w.heap.size + 1) (by omega)).trans Y0.out)
          have c3 : w2.cell? ⟨(ad.add (f * 3)).block, (ad.add (f * 3)).off + 2, none⟩ = some (.slice (some dd) x.v.n x.v.c) := by
            have h := HC.out w2 BW2.out 2 (.slice x.v.a x.v.n x.v.c) rfl
            rw [HXA.out] at h
            exact h
          have HD2 := Lib.hid (HDC.out w2 BW2.out)
          obtain ⟨fr, hfr⟩ : ∃ fr, (k : Int) * x.v.sz = fr := ⟨_, rfl⟩
          obtain ⟨tt, htt⟩ : ∃ tt, toP x.v.sz x.v.ln (k : Int) = tt := ⟨_, rfl⟩
          rw [hfr, htt] at HLP TL
          rw [hfr] at KL
          rw [htt] at TH
          rw [hfr, htt]
          have hw : IntKind.i64.wrap (tt - fr) = tt - fr := IntWalk.i64_in _ ⟨by omega, by omega⟩
          have he : ∀ V : World, (binOp .eql 59 (.agg y.cells.toArray) (.agg d.cells.toArray)).run Try.prog V = .ok (.bool (y.1 == d.1)) V := fun V => eqd y d V
          clear KL TL TH hfr htt AP b2 c2 HC1 BW
          by_cases hyd : y.1 = d.1
          · have e1 : (y.1 == d.1) = true := by simpa using hyd
            rw [e1] at he
            clear e1
            by_cases hnn : tt - fr = n
            · have e2 : (tt - fr == n) = true := by simpa using hnn
              have HF := Lib.hid (show lk (d, n) (entsA hv m) = some ((f : Int), (k : Int)) from
                lk_found hlt (by rw [HX.out]; exact hlt2) HL.out (by rw [HX.out]; exact HL2.out) (by rw [HX.out, HYG.out, HLP.out, hnn, show y = d from Subtype.ext hyd]))
              clear hyd hnn
              go_upto_region 8 with fail
              refine wp_region_tree (SK.one 0 false <| .one 1 false <| .one 2 false <| .one 3 false <| .one 4 false <| .one 5 false <| .one 6 false <| .one 7 false <| .one 8 false <| .one 9 false <| .one 10 false <| .one 11 false <| .one 12 false <| .one 13 false <| .one 14 false <| .one 15 false <| .one 16 false .done) (fun V => V.cell? ⟨(ad.add (f * 3)).block, (ad.add (f * 3)).off + 2, none⟩ = some (.slice (some dd) x.v.n x.v.c) ∧ (∀ j u, y.cells[j]? = some u → V.cell? ((dd.add (k * 32)).add j) = some u) ∧ V.heap[w.heap.size]? = some (.cells d.cells.toArray 59 (0, 0))) (by kernel_rfl) (by kernel_rfl) (by kernel_rfl) (by kernel_rfl) ?_
              have hS : w2.drew.cell? ⟨(ad.add (f * 3)).block, (ad.add (f * 3)).off + 2, none⟩ = some (.slice (some dd) x.v.n x.v.c) ∧ (∀ j u, y.cells[j]? = some u → w2.drew.cell? ((dd.add (k * 32)).add j) = some u) ∧ w2.drew.heap[w.heap.size]? = some (.cells d.cells.toArray 59 (0, 0)) := ⟨c3, HD2.out, X2.out⟩
              ((first | (refine TR.val2 (v := ?_) _ (by simp only [List.getElem?_toArray, List.getElem?_cons_zero]; rfl) ?_ ?_ ?_ ?_ ?_; rotate_left; (focus rfl); (focus (intro W hSW; (try dsimp only at hSW); (try (obtain ⟨hS1, hSW⟩ := hSW)); (try (obtain ⟨hS2, hSW⟩ := hSW)); (try (obtain ⟨hS3, hSW⟩ := hSW)); (try (obtain ⟨hS4, hSW⟩ := hSW)); (try (obtain ⟨hS5, hSW⟩ := hSW)); go_simp; (try with_reducible rfl); done)); (focus exact fun _ _ _ h => h); (focus assumption)) | (refine TR.skip _ (by simp only [List.getElem?_toArray, List.getElem?_cons_zero]; rfl) ?_ ?_ ?_ ?_; (focus rfl); (focus exact fun _ _ _ h => h); (focus assumption))); simp only [Act.put, List.setIfInBounds_toArray, List.set_cons_zero, List.set_cons_succ])
              iterate 6 ((first | (refine TR.val2 (v := ?_) _ (by simp only [List.getElem?_toArray, List.getElem?_cons_succ, List.getElem?_cons_zero]; rfl) ?_ ?_ ?_ ?_ ?_; rotate_left; (focus rfl); (focus (intro W hSW; (try dsimp only at hSW); (try (obtain ⟨hS1, hSW⟩ := hSW)); (try (obtain ⟨hS2, hSW⟩ := hSW)); (try (obtain ⟨hS3, hSW⟩ := hSW)); (try (obtain ⟨hS4, hSW⟩ := hSW)); (try (obtain ⟨hS5, hSW⟩ := hSW)); go_simp; (try with_reducible rfl); done)); (focus exact fun _ _ _ h => h); (focus assumption)) | (refine TR.skip _ (by simp only [List.getElem?_toArray, List.getElem?_cons_succ, List.getElem?_cons_zero]; rfl) ?_ ?_ ?_ ?_; (focus rfl); (focus exact fun _ _ _ h => h); (focus assumption))); simp only [Act.put, List.setIfInBounds_toArray, List.set_cons_zero, List.set_cons_succ])
              refine TR.val2 (v := .agg y.cells.toArray) _ (by simp only [List.getElem?_toArray, List.getElem?_cons_succ, List.getElem?_cons_zero]; rfl) ?_ ?_ ?_ ?_ ?_
              (focus rfl)
              (focus exact fun V hV => exec_load_slot 59 (.tmp 44) rfl (dd.add (k * 32)) rfl y.cells _ (hV.2.1) Try.underlying59 rfl (HID.out.trans (by rw [Dg.cells_len])))
              (focus exact fun _ _ _ h => h)
              (focus exact hS)
              simp only [Act.put, List.setIfInBounds_toArray, List.set_cons_zero, List.set_cons_succ]
              refine TR.val2 (v := .agg d.cells.toArray) _ (by simp only [List.getElem?_toArray, List.getElem?_cons_succ, List.getElem?_cons_zero]; rfl) ?_ ?_ ?_ ?_ ?_
              (focus rfl)
              (focus exact fun V hV => exec_load_slot 59 (.tmp 3) rfl (⟨w.heap.size, 0, none⟩) rfl d.cells _ (row_cells hV.2.2) Try.underlying59 rfl (HID.out.trans (by rw [Dg.cells_len])))
              (focus exact fun _ _ _ h => h)
              (focus exact hS)
              simp only [Act.put, List.setIfInBounds_toArray, List.set_cons_zero, List.set_cons_succ]
              iterate 8 ((first | (refine TR.val2 (v := ?_) _ (by simp only [List.getElem?_toArray, List.getElem?_cons_succ, List.getElem?_cons_zero]; rfl) ?_ ?_ ?_ ?_ ?_; rotate_left; (focus rfl); (focus (intro W hSW; (try dsimp only at hSW); (try (obtain ⟨hS1, hSW⟩ := hSW)); (try (obtain ⟨hS2, hSW⟩ := hSW)); (try (obtain ⟨hS3, hSW⟩ := hSW)); (try (obtain ⟨hS4, hSW⟩ := hSW)); (try (obtain ⟨hS5, hSW⟩ := hSW)); go_simp; (try with_reducible rfl); done)); (focus exact fun _ _ _ h => h); (focus assumption)) | (refine TR.skip _ (by simp only [List.getElem?_toArray, List.getElem?_cons_succ, List.getElem?_cons_zero]; rfl) ?_ ?_ ?_ ?_; (focus rfl); (focus exact fun _ _ _ h => h); (focus assumption))); simp only [Act.put, List.setIfInBounds_toArray, List.set_cons_zero, List.set_cons_succ])
              refine TR.done ?_
              clear hS
              have Y3 := Lib.hid (show w2.drew.heap[w.heap.size + 1]? = some (.cells #[.int .i64 0, .int .i64 0] 47 (0, 0)) from Y2.out)
              have HIS := Lib.hid (show (Try.prog.info? 47).map (·.size) = some 2 by kernel_rfl)
              have Y4 := Lib.hid (setRow_heap _ (w.heap.size + 1) _ #[.int .i64 (f : Int), .int .i64 (k : Int)] _ _ Y3.out)
              have fz0 : w2.frozen? ⟨w.heap.size + 1, 0, none⟩ = false := frozen_of_row w2 _ 0 _ _ Y2.out
              have fz1 : w2.frozen? ⟨w.heap.size + 1, 1, none⟩ = false := frozen_of_row w2 _ 1 _ _ Y2.out
              have cz0 : w2.cell? ⟨w.heap.size + 1, 0, none⟩ = some (.int .i64 0) := by rw [cell_of_row _ _ 0 _ _ _ Y2.out]; rfl
              have cz1 : w2.cell? ⟨w.heap.size + 1, 1, none⟩ = some (.int .i64 0) := by rw [cell_of_row _ _ 1 _ _ _ Y2.out]; rfl
              go_wp2_with (first
                | (refine wpList_store_row rfl 47 (.tmp 6) (.tmp 57) rfl (w.heap.size + 1) #[.int .i64 (f : Int), .int .i64 (k : Int)] rfl rfl 47 _ Y3.out HIS.out rfl rfl ?_)
                | fail)
              exact bodyPost_ret (results_row1 Try.results43 _ _ (w.heap.size + 1) _ #[.int .i64 (f : Int), .int .i64 (k : Int)] _ _ rfl (two_cells Y2.out) Try.underlying47 rfl HIS.out) rfl
                ⟨by rw [HF.out]; rfl, (((BW2.out.setCell (p := ⟨w.heap.size + 1, 0, none⟩) (Nat.le_succ _) _).setCell (p := ⟨w.heap.size + 1, 1, none⟩) (Nat.le_succ _) _)).drew⟩
            · have HN := Lib.hid (show lk (d, n) ((entsOf f x).take (k + 1)) = none by
                rw [entsOf_take hlt2]
                exact lk_snoc HL2.out (fun e => hnn (by rw [← HLP.out]; exact congrArg Prod.snd e)))
              have e2 : (tt - fr == n) = false := by simpa using hnn
              clear hyd hnn
              go_upto_region 8 with fail
              refine wp_region_tree (SK.one 0 false <| .one 1 false <| .one 2 false <| .one 3 false <| .one 4 false <| .one 5 false <| .one 6 false <| .one 7 false <| .one 8 false <| .one 9 false <| .one 10 false <| .one 11 false <| .one 12 false <| .one 13 false <| .one 14 false <| .one 15 false <| .one 16 false .done) (fun V => V.cell? ⟨(ad.add (f * 3)).block, (ad.add (f * 3)).off + 2, none⟩ = some (.slice (some dd) x.v.n x.v.c) ∧ (∀ j u, y.cells[j]? = some u → V.cell? ((dd.add (k * 32)).add j) = some u) ∧ V.heap[w.heap.size]? = some (.cells d.cells.toArray 59 (0, 0))) (by kernel_rfl) (by kernel_rfl) (by kernel_rfl) (by kernel_rfl) ?_
              have hS : w2.drew.cell? ⟨(ad.add (f * 3)).block, (ad.add (f * 3)).off + 2, none⟩ = some (.slice (some dd) x.v.n x.v.c) ∧ (∀ j u, y.cells[j]? = some u → w2.drew.cell? ((dd.add (k * 32)).add j) = some u) ∧ w2.drew.heap[w.heap.size]? = some (.cells d.cells.toArray 59 (0, 0)) := ⟨c3, HD2.out, X2.out⟩
              ((first | (refine TR.val2 (v := ?_) _ (by simp only [List.getElem?_toArray, List.getElem?_cons_zero]; rfl) ?_ ?_ ?_ ?_ ?_; rotate_left; (focus rfl); (focus (intro W hSW; (try dsimp only at hSW); (try (obtain ⟨hS1, hSW⟩ := hSW)); (try (obtain ⟨hS2, hSW⟩ := hSW)); (try (obtain ⟨hS3, hSW⟩ := hSW)); (try (obtain ⟨hS4, hSW⟩ := hSW)); (try (obtain ⟨hS5, hSW⟩ := hSW)); go_simp; (try with_reducible rfl); done)); (focus exact fun _ _ _ h => h); (focus assumption)) | (refine TR.skip _ (by simp only [List.getElem?_toArray, List.getElem?_cons_zero]; rfl) ?_ ?_ ?_ ?_; (focus rfl); (focus exact fun _ _ _ h => h); (focus assumption))); simp only [Act.put, List.setIfInBounds_toArray, List.set_cons_zero, List.set_cons_succ])
              iterate 6 ((first | (refine TR.val2 (v := ?_) _ (by simp only [List.getElem?_toArray, List.getElem?_cons_succ, List.getElem?_cons_zero]; rfl) ?_ ?_ ?_ ?_ ?_; rotate_left; (focus rfl); (focus (intro W hSW; (try dsimp only at hSW); (try (obtain ⟨hS1, hSW⟩ := hSW)); (try (obtain ⟨hS2, hSW⟩ := hSW)); (try (obtain ⟨hS3, hSW⟩ := hSW)); (try (obtain ⟨hS4, hSW⟩ := hSW)); (try (obtain ⟨hS5, hSW⟩ := hSW)); go_simp; (try with_reducible rfl); done)); (focus exact fun _ _ _ h => h); (focus assumption)) | (refine TR.skip _ (by simp only [List.getElem?_toArray, List.getElem?_cons_succ, List.getElem?_cons_zero]; rfl) ?_ ?_ ?_ ?_; (focus rfl); (focus exact fun _ _ _ h => h); (focus assumption))); simp only [Act.put, List.setIfInBounds_toArray, List.set_cons_zero, List.set_cons_succ])
              refine TR.val2 (v := .agg y.cells.toArray) _ (by simp only [List.getElem?_toArray, List.getElem?_cons_succ, List.getElem?_cons_zero]; rfl) ?_ ?_ ?_ ?_ ?_
              (focus rfl)
              (focus exact fun V hV => exec_load_slot 59 (.tmp 44) rfl (dd.add (k * 32)) rfl y.cells _ (hV.2.1) Try.underlying59 rfl (HID.out.trans (by rw [Dg.cells_len])))
              (focus exact fun _ _ _ h => h)
              (focus exact hS)
              simp only [Act.put, List.setIfInBounds_toArray, List.set_cons_zero, List.set_cons_succ]
              refine TR.val2 (v := .agg d.cells.toArray) _ (by simp only [List.getElem?_toArray, List.getElem?_cons_succ, List.getElem?_cons_zero]; rfl) ?_ ?_ ?_ ?_ ?_
              (focus rfl)
              (focus exact fun V hV => exec_load_slot 59 (.tmp 3) rfl (⟨w.heap.size, 0, none⟩) rfl d.cells _ (row_cells hV.2.2) Try.underlying59 rfl (HID.out.trans (by rw [Dg.cells_len])))
              (focus exact fun _ _ _ h => h)
              (focus exact hS)
              simp only [Act.put, List.setIfInBounds_toArray, List.set_cons_zero, List.set_cons_succ]
              iterate 8 ((first | (refine TR.val2 (v := ?_) _ (by simp only [List.getElem?_toArray, List.getElem?_cons_succ, List.getElem?_cons_zero]; rfl) ?_ ?_ ?_ ?_ ?_; rotate_left; (focus rfl); (focus (intro W hSW; (try dsimp only at hSW); (try (obtain ⟨hS1, hSW⟩ := hSW)); (try (obtain ⟨hS2, hSW⟩ := hSW)); (try (obtain ⟨hS3, hSW⟩ := hSW)); (try (obtain ⟨hS4, hSW⟩ := hSW)); (try (obtain ⟨hS5, hSW⟩ := hSW)); go_simp; (try with_reducible rfl); done)); (focus exact fun _ _ _ h => h); (focus assumption)) | (refine TR.skip _ (by simp only [List.getElem?_toArray, List.getElem?_cons_succ, List.getElem?_cons_zero]; rfl) ?_ ?_ ?_ ?_; (focus rfl); (focus exact fun _ _ _ h => h); (focus assumption))); simp only [Act.put, List.setIfInBounds_toArray, List.set_cons_zero, List.set_cons_succ])
              refine TR.done ?_
              clear hS
              go_wp2_with fail
              go_roundw
              case rel => exact ⟨k + 1, hlt2, by go_num, HN.out, HB3.out.drew⟩
              case measure => simp [intOf]; omega
          · have HN := Lib.hid (show lk (d, n) ((entsOf f x).take (k + 1)) = none by
              rw [entsOf_take hlt2]
              exact lk_snoc HL2.out (fun e => hyd (by rw [← HYG.out]; exact congrArg (fun z : Kd => z.1.1) e)))
            have e1 : (y.1 == d.1) = false := by simpa using hyd
            rw [e1] at he
            clear e1 hyd
            go_upto_region 8 with fail
            refine wp_region_tree (SK.one 0 false <| .one 1 false <| .one 2 false <| .one 3 false <| .one 4 false <| .one 5 false <| .one 6 false <| .one 7 false <| .one 8 false <| .one 9 false <| .one 10 false <| .one 11 false <| .one 12 false <| .one 13 false <| .one 14 false <| .one 15 false <| .one 16 false .done) (fun V => V.cell? ⟨(ad.add (f * 3)).block, (ad.add (f * 3)).off + 2, none⟩ = some (.slice (some dd) x.v.n x.v.c) ∧ (∀ j u, y.cells[j]? = some u → V.cell? ((dd.add (k * 32)).add j) = some u) ∧ V.heap[w.heap.size]? = some (.cells d.cells.toArray 59 (0, 0))) (by kernel_rfl) (by kernel_rfl) (by kernel_rfl) (by kernel_rfl) ?_
            have hS : w2.drew.cell? ⟨(ad.add (f * 3)).block, (ad.add (f * 3)).off + 2, none⟩ = some (.slice (some dd) x.v.n x.v.c) ∧ (∀ j u, y.cells[j]? = some u → w2.drew.cell? ((dd.add (k * 32)).add j) = some u) ∧ w2.drew.heap[w.heap.size]? = some (.cells d.cells.toArray 59 (0, 0)) := ⟨c3, HD2.out, X2.out⟩
            ((first | (refine TR.val2 (v := ?_) _ (by simp only [List.getElem?_toArray, List.getElem?_cons_zero]; rfl) ?_ ?_ ?_ ?_ ?_; rotate_left; (focus rfl); (focus (intro W hSW; (try dsimp only at hSW); (try (obtain ⟨hS1, hSW⟩ := hSW)); (try (obtain ⟨hS2, hSW⟩ := hSW)); (try (obtain ⟨hS3, hSW⟩ := hSW)); (try (obtain ⟨hS4, hSW⟩ := hSW)); (try (obtain ⟨hS5, hSW⟩ := hSW)); go_simp; (try with_reducible rfl); done)); (focus exact fun _ _ _ h => h); (focus assumption)) | (refine TR.skip _ (by simp only [List.getElem?_toArray, List.getElem?_cons_zero]; rfl) ?_ ?_ ?_ ?_; (focus rfl); (focus exact fun _ _ _ h => h); (focus assumption))); simp only [Act.put, List.setIfInBounds_toArray, List.set_cons_zero, List.set_cons_succ])
            iterate 6 ((first | (refine TR.val2 (v := ?_) _ (by simp only [List.getElem?_toArray, List.getElem?_cons_succ, List.getElem?_cons_zero]; rfl) ?_ ?_ ?_ ?_ ?_; rotate_left; (focus rfl); (focus (intro W hSW; (try dsimp only at hSW); (try (obtain ⟨hS1, hSW⟩ := hSW)); (try (obtain ⟨hS2, hSW⟩ := hSW)); (try (obtain ⟨hS3, hSW⟩ := hSW)); (try (obtain ⟨hS4, hSW⟩ := hSW)); (try (obtain ⟨hS5, hSW⟩ := hSW)); go_simp; (try with_reducible rfl); done)); (focus exact fun _ _ _ h => h); (focus assumption)) | (refine TR.skip _ (by simp only [List.getElem?_toArray, List.getElem?_cons_succ, List.getElem?_cons_zero]; rfl) ?_ ?_ ?_ ?_; (focus rfl); (focus exact fun _ _ _ h => h); (focus assumption))); simp only [Act.put, List.setIfInBounds_toArray, List.set_cons_zero, List.set_cons_succ])
            refine TR.val2 (v := .agg y.cells.toArray) _ (by simp only [List.getElem?_toArray, List.getElem?_cons_succ, List.getElem?_cons_zero]; rfl) ?_ ?_ ?_ ?_ ?_
            (focus rfl)
            (focus exact fun V hV => exec_load_slot 59 (.tmp 44) rfl (dd.add (k * 32)) rfl y.cells _ (hV.2.1) Try.underlying59 rfl (HID.out.trans (by rw [Dg.cells_len])))
            (focus exact fun _ _ _ h => h)
            (focus exact hS)
            simp only [Act.put, List.setIfInBounds_toArray, List.set_cons_zero, List.set_cons_succ]
            refine TR.val2 (v := .agg d.cells.toArray) _ (by simp only [List.getElem?_toArray, List.getElem?_cons_succ, List.getElem?_cons_zero]; rfl) ?_ ?_ ?_ ?_ ?_
            (focus rfl)
            (focus exact fun V hV => exec_load_slot 59 (.tmp 3) rfl (⟨w.heap.size, 0, none⟩) rfl d.cells _ (row_cells hV.2.2) Try.underlying59 rfl (HID.out.trans (by rw [Dg.cells_len])))
            (focus exact fun _ _ _ h => h)
            (focus exact hS)
            simp only [Act.put, List.setIfInBounds_toArray, List.set_cons_zero, List.set_cons_succ]
            iterate 8 ((first | (refine TR.val2 (v := ?_) _ (by simp only [List.getElem?_toArray, List.getElem?_cons_succ, List.getElem?_cons_zero]; rfl) ?_ ?_ ?_ ?_ ?_; rotate_left; (focus rfl); (focus (intro W hSW; (try dsimp only at hSW); (try (obtain ⟨hS1, hSW⟩ := hSW)); (try (obtain ⟨hS2, hSW⟩ := hSW)); (try (obtain ⟨hS3, hSW⟩ := hSW)); (try (obtain ⟨hS4, hSW⟩ := hSW)); (try (obtain ⟨hS5, hSW⟩ := hSW)); go_simp; (try with_reducible rfl); done)); (focus exact fun _ _ _ h => h); (focus assumption)) | (refine TR.skip _ (by simp only [List.getElem?_toArray, List.getElem?_cons_succ, List.getElem?_cons_zero]; rfl) ?_ ?_ ?_ ?_; (focus rfl); (focus exact fun _ _ _ h => h); (focus assumption))); simp only [Act.put, List.setIfInBounds_toArray, List.set_cons_zero, List.set_cons_succ])
            refine TR.done ?_
            clear hS
            go_wp2_with fail
            go_roundw
            case rel => exact ⟨k + 1, hlt2, by go_num, HN.out, HB3.out.drew⟩
            case measure => simp [intOf]; omega
        · obtain rfl : k = x.v.n := by omega
          have HN := Lib.hid (show lk (d, n) (entsA hv (f + 1)) = none by
            rw [entsA_succ, lk_none_app HL.out, HX.out]
            have h := HL2.out
            rwa [List.take_of_length_le (by rw [entsOf_len]; exact Nat.le_refl _)] at h)
          go_wp2_with fail
          go_roundw
          case rel => exact ⟨f + 1, hlt, by go_num, HN.out, HB2.out⟩
          case measure => simp [intOf]; omega
    · obtain rfl : f = m := by omega
      have Y1 := Lib.hid ((HB.out.block (w.heap.size + 1) (by omega)).trans Y0.out)
      have HIS := Lib.hid (show (Try.prog.info? 47).map (·.size) = some 2 by kernel_rfl)
      have Y4 := Lib.hid (setRow_heap _ (w.heap.size + 1) _ #[.int .i64 (-1), .int .i64 0] _ _ Y1.out)
      have fz0 : wr.frozen? ⟨w.heap.size + 1, 0, none⟩ = false := frozen_of_row wr _ 0 _ _ Y1.out
      have fz1 : wr.frozen? ⟨w.heap.size + 1, 1, none⟩ = false := frozen_of_row wr _ 1 _ _ Y1.out
      have cz0 : wr.cell? ⟨w.heap.size + 1, 0, none⟩ = some (.int .i64 0) := by rw [cell_of_row _ _ 0 _ _ _ Y1.out]; rfl
      have cz1 : wr.cell? ⟨w.heap.size + 1, 1, none⟩ = some (.int .i64 0) := by rw [cell_of_row _ _ 1 _ _ _ Y1.out]; rfl
      go_wp2_with (first
        | (refine wpList_store_row rfl 47 (.tmp 6) (.tmp 58) rfl (w.heap.size + 1) #[.int .i64 (-1), .int .i64 0] rfl rfl 47 _ Y1.out HIS.out rfl rfl ?_)
        | fail)
      exact bodyPost_ret (results_row1 Try.results43 _ _ (w.heap.size + 1) _ #[.int .i64 (-1), .int .i64 0] _ _ rfl (heap_setCell_same _ _ 1 _ _ _ (heap_setCell_same _ _ 0 _ _ _ Y1.out)) Try.underlying47 rfl HIS.out) rfl
        ⟨by rw [HL.out]; rfl, ((B0.out.trans (HB.out.mono (by omega))).setCell (p := ⟨w.heap.size + 1, 0, none⟩) (Nat.le_succ _) _).setCell (p := ⟨w.heap.size + 1, 1, none⟩) (Nat.le_succ _) _⟩
end Go.Proofs.Ytmaehbebpldpcaa
