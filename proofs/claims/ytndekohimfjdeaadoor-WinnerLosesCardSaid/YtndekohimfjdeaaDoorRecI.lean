/-
  Winner: the chapter's examples live.
-/
import Derived.Test.YtndekohimfjdeaaDoorRecH
namespace Go.Proofs.YtndekohimfjdeaaDoor
open Go.RowKit Go.Shelf
set_option maxRecDepth 100000 in
set_option maxHeartbeats 16000000 in
theorem does_v (r q : Rcd) (a b : RSh) (win dd B : Nat) (w : World) (he : EnvM w) (hr : RReads w B r a) (hq : RReads w B q b) (hB : B ≤ w.heap.size) (hw : winR r q = (win, 0)) (hd : doR r q = (dd, 0)) :
    Calls Tryd.prog 27 #[.agg #[.string (st r.path), .slice a.A a.n a.c, .int .i64 r.dev, .bool r.gone, .int .i64 r.size, .int .i64 r.len, .slice a.D a.m a.k], .agg #[.string (st q.path), .slice b.A b.n b.c, .int .i64 q.dev, .bool q.gone, .int .i64 q.size, .int .i64 q.len, .slice b.D b.m b.k], .int .i64 (win : Int), .int .i64 (dd : Int)] w fun e w' => e = .returned (.bool true) ∧ Below w.heap.size w w' := by
  have HI := Lib.hid (show (Tryd.prog.info? 27).map (·.size) = some 7 by kernel_rfl)
  have BA := Lib.hid (((Below.refl w.heap.size w).alloc (Nat.le_refl _) (.cells #[.string (st r.path), .slice a.A a.n a.c, .int .i64 r.dev, .bool r.gone, .int .i64 r.size, .int .i64 r.len, .slice a.D a.m a.k] 27)).alloc (by simp) (.cells #[.string (st q.path), .slice b.A b.n b.c, .int .i64 q.dev, .bool q.gone, .int .i64 q.size, .int .i64 q.len, .slice b.D b.m b.k] 27))
  have Y := Lib.hid (heap_alloc2_new w (.cells #[.string (st r.path), .slice a.A a.n a.c, .int .i64 r.dev, .bool r.gone, .int .i64 r.size, .int .i64 r.len, .slice a.D a.m a.k] 27) (.cells #[.string (st q.path), .slice b.A b.n b.c, .int .i64 q.dev, .bool q.gone, .int .i64 q.size, .int .i64 q.len, .slice b.D b.m b.k] 27))
  have X := Lib.hid (heap_alloc2_old w (.cells #[.string (st r.path), .slice a.A a.n a.c, .int .i64 r.dev, .bool r.gone, .int .i64 r.size, .int .i64 r.len, .slice a.D a.m a.k] 27) (.cells #[.string (st q.path), .slice b.A b.n b.c, .int .i64 q.dev, .bool q.gone, .int .i64 q.size, .int .i64 q.len, .slice b.D b.m b.k] 27))
  have HR := Lib.hid hr
  have HQ := Lib.hid hq
  have HE := Lib.hid he
  have HW := Lib.hid hw
  have HD := Lib.hid hd
  have hz : w.heap.size + 2 ≤ ((w.alloc (.cells #[.string (st r.path), .slice a.A a.n a.c, .int .i64 r.dev, .bool r.gone, .int .i64 r.size, .int .i64 r.len, .slice a.D a.m a.k] 27)).alloc (.cells #[.string (st q.path), .slice b.A b.n b.c, .int .i64 q.dev, .bool q.gone, .int .i64 q.size, .int .i64 q.len, .slice b.D b.m b.k] 27)).heap.size := by simp
  clear hr hq he hw hd
  go_enter Tryd.func27, Tryd.ntmps27
  go_upto_region 1 with fail
  generalize (w.alloc (.cells #[.string (st r.path), .slice a.A a.n a.c, .int .i64 r.dev, .bool r.gone, .int .i64 r.size, .int .i64 r.len, .slice a.D a.m a.k] 27)).alloc (.cells #[.string (st q.path), .slice b.A b.n b.c, .int .i64 q.dev, .bool q.gone, .int .i64 q.size, .int .i64 q.len, .slice b.D b.m b.k] 27) = w2 at *
  go_wp2_with (first
    | (refine wpList_load_row rfl 27 (.tmp 4) rfl w.heap.size rfl 27 _ (0, 0) _ X.out Tryd.underlying27 rfl HI.out ?_)
    | (refine wpList_load_row rfl 27 (.tmp 5) rfl (w.heap.size + 1) rfl 27 _ (0, 0) _ Y.out Tryd.underlying27 rfl HI.out ?_)
    | fail)
  refine (winner_v r q a b B w2 (HE.out.below BA.out) (HR.out.below (BA.out.mono hB)) (HQ.out.below (BA.out.mono hB)) (by omega)).mono ?_
  rintro e w3 ⟨rfl, b3⟩
  rw [HW.out]
  replace X := Lib.hid ((b3.block w.heap.size (by omega)).trans X.out)
  replace Y := Lib.hid ((b3.block (w.heap.size + 1) (by omega)).trans Y.out)
  replace BA := Lib.hid (BA.out.trans (b3.mono (by omega)))
  replace hz : w.heap.size + 2 ≤ w3.heap.size := by have := b3.size; omega
  clear b3
  go_wp2_with (first
    | (refine wpList_load_row rfl 27 (.tmp 4) rfl w.heap.size rfl 27 _ (0, 0) _ X.out Tryd.underlying27 rfl HI.out ?_)
    | (refine wpList_load_row rfl 27 (.tmp 5) rfl (w.heap.size + 1) rfl 27 _ (0, 0) _ Y.out Tryd.underlying27 rfl HI.out ?_)
    | fail)
  refine (do_v r q a b B w3 (HE.out.below BA.out) (HR.out.below (BA.out.mono hB)) (HQ.out.below (BA.out.mono hB)) (by omega)).mono ?_
  rintro e w4 ⟨rfl, b3⟩
  rw [HD.out]
  replace BA := Lib.hid (BA.out.trans (b3.mono (by omega)))
  clear b3
  go_wp2
  go_ret
  exact ⟨rfl, BA.out⟩
/-- A record of one block. -/
def rcF (dv : Int) (b : Nat) (v : List (Int × Nat)) : Rcd := ⟨[102], v, dv, false, 4, 3, [dg1 b]⟩
theorem rcF_reads {W : World} {base c1 n dv b : Nat} {A1 D1 : Option Addr} {v : List (Int × Nat)} (h : COwn W base A1 n c1 v) (hd : DReads W W.heap.size D1 1 [dg1 b]) (hn : n ≤ 100) (hf : fitV v) : RReads W W.heap.size (rcF dv b v) ⟨A1, n, c1, D1, 1, 1⟩ :=
  ⟨h.reads, hd, by dsimp only; omega, by dsimp only; omega, hf⟩
theorem fit1 (x y : Int) (a : Nat) (h : a < 100) : fitV [(x, a)] := fun z hz => by rw [List.mem_singleton.1 hz]; dsimp only; omega
theorem fit2 (x y : Int) (a b : Nat) (h : a < 100) (h' : b < 100) : fitV [(x, a), (y, b)] := fun z hz => by
  rcases List.mem_cons.1 hz with rfl | hz
  · dsimp only; omega
  · rw [List.mem_singleton.1 hz]; dsimp only; omega
theorem ex1 : winR (rcF 1 7 [(1, 1)]) (rcF 2 8 [(1, 1), (2, 1)]) = (1, 0) ∧ doR (rcF 1 7 [(1, 1)]) (rcF 2 8 [(1, 1), (2, 1)]) = (2, 0) := by constructor <;> kernel_rfl
theorem ex2 : winR (rcF 1 7 [(1, 2)]) (rcF 2 8 [(2, 1)]) = (0, 0) ∧ doR (rcF 1 7 [(1, 2)]) (rcF 2 8 [(2, 1)]) = (1, 0) := by constructor <;> kernel_rfl
theorem ex3 : winR (rcF 1 7 [(1, 1)]) (rcF 2 8 [(2, 2)]) = (1, 0) ∧ doR (rcF 1 7 [(1, 1)]) (rcF 2 8 [(2, 2)]) = (3, 0) := by constructor <;> kernel_rfl
theorem RReads.drew {w : World} {B : Nat} {r : Rcd} {a : RSh} (h : RReads w B r a) : RReads w.drew B r a := ⟨Reads.drew h.cs, Reads.drew h.dg, h.hn, h.hm, h.ft⟩
set_option maxRecDepth 100000 in
set_option maxHeartbeats 16000000 in
theorem lives_v (w : World) (he : EnvM w) : Calls Tryd.prog 7 #[] w fun e w' => e = .returned (.bool true) ∧ Below w.heap.size w w' := by
  have HI := Lib.hid (show (Tryd.prog.info? 27).map (·.size) = some 7 by kernel_rfl)
  have HE := Lib.hid he
  clear he
  go_enter Tryd.func7, Tryd.ntmps7
  go_wp2_with fail
  refine (kat_v 1 1 w).mono ?_
  rintro e w1 ⟨rfl, b1⟩
  have C1 := Lib.hid (clit w1 [(1, 1)] #[.int .i64 1, .int .u64 1] 49 rfl)
  have B1 := Lib.hid (b1.alloc b1.size (.cells #[.int .i64 1, .int .u64 1] 49))
  have hz1 : (w1.alloc (.cells #[.int .i64 1, .int .u64 1] 49)).heap.size = w1.heap.size + 1 := by simp
  clear b1
  go_wp2_with fail
  generalize w1.alloc (.cells #[.int .i64 1, .int .u64 1] 49) = w2 at *
  refine (filled_v [102] 1 7 (some ⟨w1.heap.size, 0, none⟩) 1 1 (w1.heap.size + 1) [(1, 1)] w2 C1.out (by omega) (by omega)).mono ?_
  rintro e w3 ⟨A1, c1, D1, rfl, ho, hd, b3⟩
  have RA := Lib.hid (rcF_reads (dv := 1) ho hd (by omega) (fit1 1 1 1 (by omega)))
  have B3 := Lib.hid (B1.out.trans (b3.mono B1.out.size))
  have Z3 := heap_alloc_new w3 (.cells #[.string (st [102]), .slice A1 1 c1, .int .i64 1, .bool false, .int .i64 4, .int .i64 3, .slice D1 1 1] 27)
  have RA4 := Lib.hid (RA.out.below ((Below.refl w3.heap.size w3).alloc (Nat.le_refl _) (.cells #[.string (st [102]), .slice A1 1 c1, .int .i64 1, .bool false, .int .i64 4, .int .i64 3, .slice D1 1 1] 27)))
  have B4 := Lib.hid (B3.out.alloc B3.out.size (.cells #[.string (st [102]), .slice A1 1 c1, .int .i64 1, .bool false, .int .i64 4, .int .i64 3, .slice D1 1 1] 27))
  have hz4 : w3.heap.size ≤ (w3.alloc (.cells #[.string (st [102]), .slice A1 1 c1, .int .i64 1, .bool false, .int .i64 4, .int .i64 3, .slice D1 1 1] 27)).heap.size := by simp
  clear ho hd b3 C1 B1 hz1 RA B3
  go_upto_region 3 with fail
  generalize w3.alloc (.cells #[.string (st [102]), .slice A1 1 c1, .int .i64 1, .bool false, .int .i64 4, .int .i64 3, .slice D1 1 1] 27) = w4 at *
  generalize w3.heap.size = ga at *
  have hS : w4.drew.heap[ga]? = some (.cells #[.string (st [102]), .slice A1 1 c1, .int .i64 1, .bool false, .int .i64 4, .int .i64 3, .slice D1 1 1] 27 (0, 0)) := Z3
  have E := Lib.hid B4.out.drew
  have F := Lib.hid (Below.refl w4.heap.size w4).drew
  have RA := Lib.hid RA4.out.drew
  have hga : ga ≤ w4.drew.heap.size := hz4
  clear Z3 B4 RA4
  refine wp_region_text [(0, false), (1, false), (3, false), (2, true), (4, true), (5, true), (6, true), (7, true), (8, false), (9, false), (13, false), (10, true), (11, true), (12, true), (14, true), (15, true), (16, true), (17, true), (18, false), (19, false), (20, false), (21, false), (22, true), (23, true), (24, true), (25, true), (26, false), (27, false)] (fun V => V.heap[ga]? = some (.cells #[.string (st [102]), .slice A1 1 c1, .int .i64 1, .bool false, .int .i64 4, .int .i64 3, .slice D1 1 1] 27 (0, 0))) (by kernel_rfl) (by kernel_rfl) (by kernel_rfl) (by kernel_rfl) (by kernel_rfl) (fun _ => ?_)
  simp only [outOf, List.getElem?_cons_zero, List.getElem?_cons_succ, Option.getD_some]
  replace F : Hid (Below w4.drew.heap.size w4.drew w4.drew) := Lib.hid (Below.refl _ _)
  generalize w4.drew = ws at *
  refine TW.val2 (v := .agg #[.string (st [102]), .slice A1 1 c1, .int .i64 1, .bool false, .int .i64 4, .int .i64 3, .slice D1 1 1]) ?_ ?_ ?_ ?_ ?_
  (focus rfl)
  (focus exact fun V hV => exec_load_slot 27 (.tmp 2) rfl ⟨ga, 0, none⟩ rfl (#[.string (st [102]), .slice A1 1 c1, .int .i64 1, .bool false, .int .i64 4, .int .i64 3, .slice D1 1 1]).toList _ (rcells_at hV (fun j v h => by rw [Nat.zero_add]; simpa using h)) Tryd.underlying27 rfl HI.out)
  (focus exact fun _ _ _ h => h)
  (focus exact hS)
  simp only [Act.put, List.setIfInBounds_toArray, List.set_cons_zero, List.set_cons_succ]
  iterate 2 ((first | (refine TW.val2 (v := ?_) ?_ ?_ ?_ ?_ ?_; rotate_left; (focus rfl); (focus (intro W hSW; (try dsimp only at hSW); (try (obtain ⟨hS1, hSW⟩ := hSW)); (try (obtain ⟨hS2, hSW⟩ := hSW)); (try (obtain ⟨hS3, hSW⟩ := hSW)); (try (obtain ⟨hS4, hSW⟩ := hSW)); (try (obtain ⟨hS5, hSW⟩ := hSW)); (try (obtain ⟨hS6, hSW⟩ := hSW)); (try (obtain ⟨hS7, hSW⟩ := hSW)); (try (obtain ⟨hS8, hSW⟩ := hSW)); go_simp; (try with_reducible rfl); done)); (focus exact fun _ _ _ h => h); (focus assumption)) | (refine TW.skip (e := false) ?_ ?_ ?_ ?_; (focus rfl); (focus exact fun _ _ _ h => h); (focus assumption))); simp only [Act.put, List.setIfInBounds_toArray, List.set_cons_zero, List.set_cons_succ])
  refine TW.eff (by rfl) (fun K hK => ?_); go_simp
  refine (kat_v 1 1 _).mono ?_
  rintro e wn ⟨rfl, bn⟩
  have hSn : wn.heap[ga]? = some (.cells #[.string (st [102]), .slice A1 1 c1, .int .i64 1, .bool false, .int .i64 4, .int .i64 3, .slice D1 1 1] 27 (0, 0)) := (bn.block ga (Array.getElem?_eq_some_iff.1 hS).1).trans hS
  replace E := Lib.hid (E.out.trans (bn.mono E.out.size))
  replace F := Lib.hid (F.out.trans (bn.mono F.out.size))
  (try replace G := Lib.hid (G.out.trans (bn.mono G.out.size)))
  clear hS bn
  go_wp2_with fail; refine hK.out _ _ hSn ?_; clear hK; (try simp only [Act.put, List.setIfInBounds_toArray, List.set_cons_zero, List.set_cons_succ])
  have hS : wn.heap[ga]? = some (.cells #[.string (st [102]), .slice A1 1 c1, .int .i64 1, .bool false, .int .i64 4, .int .i64 3, .slice D1 1 1] 27 (0, 0)) := hSn
  clear hSn
  refine TW.eff (by rfl) (fun K hK => ?_); go_simp
  refine (kat_v 2 1 _).mono ?_
  rintro e wn ⟨rfl, bn⟩
  have hSn : wn.heap[ga]? = some (.cells #[.string (st [102]), .slice A1 1 c1, .int .i64 1, .bool false, .int .i64 4, .int .i64 3, .slice D1 1 1] 27 (0, 0)) := (bn.block ga (Array.getElem?_eq_some_iff.1 hS).1).trans hS
  replace E := Lib.hid (E.out.trans (bn.mono E.out.size))
  replace F := Lib.hid (F.out.trans (bn.mono F.out.size))
  (try replace G := Lib.hid (G.out.trans (bn.mono G.out.size)))
  clear hS bn
  go_wp2_with fail; refine hK.out _ _ hSn ?_; clear hK; (try simp only [Act.put, List.setIfInBounds_toArray, List.set_cons_zero, List.set_cons_succ])
  have hS : wn.heap[ga]? = some (.cells #[.string (st [102]), .slice A1 1 c1, .int .i64 1, .bool false, .int .i64 4, .int .i64 3, .slice D1 1 1] 27 (0, 0)) := hSn
  clear hSn
  refine TW.eff (by rfl) (fun K hK => ?_); go_simp
  have C := Lib.hid (clit wn [(1, 1), (2, 1)] #[.int .i64 1, .int .u64 1, .int .i64 2, .int .u64 1] 49 rfl)
  have bn := (Below.refl wn.heap.size wn).alloc (Nat.le_refl _) (.cells #[.int .i64 1, .int .u64 1, .int .i64 2, .int .u64 1] 49)
  have hzb : wn.heap.size + 1 ≤ (wn.alloc (.cells #[.int .i64 1, .int .u64 1, .int .i64 2, .int .u64 1] 49)).heap.size := by simp
  replace E := Lib.hid (E.out.trans (bn.mono E.out.size))
  replace F := Lib.hid (F.out.trans (bn.mono F.out.size))
  (try replace G := Lib.hid (G.out.trans (bn.mono G.out.size)))
  have hSn : (wn.alloc (.cells #[.int .i64 1, .int .u64 1, .int .i64 2, .int .u64 1] 49)).heap[ga]? = some (.cells #[.string (st [102]), .slice A1 1 c1, .int .i64 1, .bool false, .int .i64 4, .int .i64 3, .slice D1 1 1] 27 (0, 0)) := (bn.block ga (Array.getElem?_eq_some_iff.1 hS).1).trans hS
  clear hS bn
  generalize wn.alloc (.cells #[.int .i64 1, .int .u64 1, .int .i64 2, .int .u64 1] 49) = wb at *
  generalize wn.heap.size = gb at *
  (try (go_wp2_with fail)); refine hK.out _ _ hSn ?_; clear hK; (try simp only [Act.put, List.setIfInBounds_toArray, List.set_cons_zero, List.set_cons_succ])
  have hS : wb.heap[ga]? = some (.cells #[.string (st [102]), .slice A1 1 c1, .int .i64 1, .bool false, .int .i64 4, .int .i64 3, .slice D1 1 1] 27 (0, 0)) := hSn
  clear hSn
  refine TW.eff (by rfl) (fun K hK => ?_); go_simp
  refine (filled_v [102] 2 8 (some ⟨gb, 0, none⟩) 2 2 (gb + 1) [(1, 1), (2, 1)] wb C.out (by omega) (by omega)).mono ?_
  rintro e wn ⟨A2, c2, D2, rfl, ho, hd, bn⟩
  have RB := Lib.hid (rcF_reads (dv := 2) ho hd (by omega) (fit2 1 2 1 1 (by omega) (by omega)))
  clear ho hd C hzb
  have hSn : wn.heap[ga]? = some (.cells #[.string (st [102]), .slice A1 1 c1, .int .i64 1, .bool false, .int .i64 4, .int .i64 3, .slice D1 1 1] 27 (0, 0)) := (bn.block ga (Array.getElem?_eq_some_iff.1 hS).1).trans hS
  replace E := Lib.hid (E.out.trans (bn.mono E.out.size))
  replace F := Lib.hid (F.out.trans (bn.mono F.out.size))
  (try replace G := Lib.hid (G.out.trans (bn.mono G.out.size)))
  clear hS bn
  go_wp2_with fail; refine hK.out _ _ hSn ?_; clear hK; (try simp only [Act.put, List.setIfInBounds_toArray, List.set_cons_zero, List.set_cons_succ])
  have hS : wn.heap[ga]? = some (.cells #[.string (st [102]), .slice A1 1 c1, .int .i64 1, .bool false, .int .i64 4, .int .i64 3, .slice D1 1 1] 27 (0, 0)) := hSn
  clear hSn
  have RAn := Lib.hid ((RA.out.below (F.out.mono hga)).more (Nat.le_trans hga F.out.size))
  refine TW.eff (by rfl) (fun K hK => ?_); go_simp
  refine (does_v (rcF 1 7 [(1, 1)]) (rcF 2 8 [(1, 1), (2, 1)]) ⟨A1, 1, c1, D1, 1, 1⟩ ⟨A2, 2, c2, D2, 1, 1⟩ 1 2 wn.heap.size wn (HE.out.below E.out) (RAn.out) (RB.out) (Nat.le_refl _) ex1.1 ex1.2).mono ?_
  rintro e wn ⟨rfl, bn⟩
  have hSn : wn.heap[ga]? = some (.cells #[.string (st [102]), .slice A1 1 c1, .int .i64 1, .bool false, .int .i64 4, .int .i64 3, .slice D1 1 1] 27 (0, 0)) := (bn.block ga (Array.getElem?_eq_some_iff.1 hS).1).trans hS
  replace E := Lib.hid (E.out.trans (bn.mono E.out.size))
  replace F := Lib.hid (F.out.trans (bn.mono F.out.size))
  (try replace G := Lib.hid (G.out.trans (bn.mono G.out.size)))
  clear hS bn
  go_wp2_with fail; refine hK.out _ _ hSn ?_; clear hK; (try simp only [Act.put, List.setIfInBounds_toArray, List.set_cons_zero, List.set_cons_succ])
  have hS : wn.heap[ga]? = some (.cells #[.string (st [102]), .slice A1 1 c1, .int .i64 1, .bool false, .int .i64 4, .int .i64 3, .slice D1 1 1] 27 (0, 0)) := hSn
  clear hSn
  clear RB RAn
  iterate 3 ((first | (refine TW.val2 (v := ?_) ?_ ?_ ?_ ?_ ?_; rotate_left; (focus rfl); (focus (intro W hSW; (try dsimp only at hSW); (try (obtain ⟨hS1, hSW⟩ := hSW)); (try (obtain ⟨hS2, hSW⟩ := hSW)); (try (obtain ⟨hS3, hSW⟩ := hSW)); (try (obtain ⟨hS4, hSW⟩ := hSW)); (try (obtain ⟨hS5, hSW⟩ := hSW)); (try (obtain ⟨hS6, hSW⟩ := hSW)); (try (obtain ⟨hS7, hSW⟩ := hSW)); (try (obtain ⟨hS8, hSW⟩ := hSW)); go_simp; (try with_reducible rfl); done)); (focus exact fun _ _ _ h => h); (focus assumption)) | (refine TW.skip (e := false) ?_ ?_ ?_ ?_; (focus rfl); (focus exact fun _ _ _ h => h); (focus assumption))); simp only [Act.put, List.setIfInBounds_toArray, List.set_cons_zero, List.set_cons_succ])
  refine TW.eff (by rfl) (fun K hK => ?_); go_simp
  refine (kat_v 1 2 _).mono ?_
  rintro e wn ⟨rfl, bn⟩
  have hSn : wn.heap[ga]? = some (.cells #[.string (st [102]), .slice A1 1 c1, .int .i64 1, .bool false, .int .i64 4, .int .i64 3, .slice D1 1 1] 27 (0, 0)) := (bn.block ga (Array.getElem?_eq_some_iff.1 hS).1).trans hS
  replace E := Lib.hid (E.out.trans (bn.mono E.out.size))
  replace F := Lib.hid (F.out.trans (bn.mono F.out.size))
  (try replace G := Lib.hid (G.out.trans (bn.mono G.out.size)))
  clear hS bn
  go_wp2_with fail; refine hK.out _ _ hSn ?_; clear hK; (try simp only [Act.put, List.setIfInBounds_toArray, List.set_cons_zero, List.set_cons_succ])
  have hS : wn.heap[ga]? = some (.cells #[.string (st [102]), .slice A1 1 c1, .int .i64 1, .bool false, .int .i64 4, .int .i64 3, .slice D1 1 1] 27 (0, 0)) := hSn
  clear hSn
  refine TW.eff (by rfl) (fun K hK => ?_); go_simp
  have C := Lib.hid (clit wn [(1, 2)] #[.int .i64 1, .int .u64 2] 49 rfl)
  have bn := (Below.refl wn.heap.size wn).alloc (Nat.le_refl _) (.cells #[.int .i64 1, .int .u64 2] 49)
  have hzb : wn.heap.size + 1 ≤ (wn.alloc (.cells #[.int .i64 1, .int .u64 2] 49)).heap.size := by simp
  replace E := Lib.hid (E.out.trans (bn.mono E.out.size))
  replace F := Lib.hid (F.out.trans (bn.mono F.out.size))
  (try replace G := Lib.hid (G.out.trans (bn.mono G.out.size)))
  have hSn : (wn.alloc (.cells #[.int .i64 1, .int .u64 2] 49)).heap[ga]? = some (.cells #[.string (st [102]), .slice A1 1 c1, .int .i64 1, .bool false, .int .i64 4, .int .i64 3, .slice D1 1 1] 27 (0, 0)) := (bn.block ga (Array.getElem?_eq_some_iff.1 hS).1).trans hS
  clear hS bn
  generalize wn.alloc (.cells #[.int .i64 1, .int .u64 2] 49) = wb at *
  generalize wn.heap.size = gb at *
  (try (go_wp2_with fail)); refine hK.out _ _ hSn ?_; clear hK; (try simp only [Act.put, List.setIfInBounds_toArray, List.set_cons_zero, List.set_cons_succ])
  have hS : wb.heap[ga]? = some (.cells #[.string (st [102]), .slice A1 1 c1, .int .i64 1, .bool false, .int .i64 4, .int .i64 3, .slice D1 1 1] 27 (0, 0)) := hSn
  clear hSn
  refine TW.eff (by rfl) (fun K hK => ?_); go_simp
  refine (filled_v [102] 1 7 (some ⟨gb, 0, none⟩) 1 1 (gb + 1) [(1, 2)] wb C.out (by omega) (by omega)).mono ?_
  rintro e wn ⟨A3, c3, D3, rfl, ho, hd, bn⟩
  have RB := Lib.hid (rcF_reads (dv := 1) ho hd (by omega) (fit1 1 1 2 (by omega)))
  clear ho hd C hzb
  have hSn : wn.heap[ga]? = some (.cells #[.string (st [102]), .slice A1 1 c1, .int .i64 1, .bool false, .int .i64 4, .int .i64 3, .slice D1 1 1] 27 (0, 0)) := (bn.block ga (Array.getElem?_eq_some_iff.1 hS).1).trans hS
  replace E := Lib.hid (E.out.trans (bn.mono E.out.size))
  replace F := Lib.hid (F.out.trans (bn.mono F.out.size))
  (try replace G := Lib.hid (G.out.trans (bn.mono G.out.size)))
  clear hS bn
  go_wp2_with fail; refine hK.out _ _ hSn ?_; clear hK; (try simp only [Act.put, List.setIfInBounds_toArray, List.set_cons_zero, List.set_cons_succ])
  have hS : wn.heap[ga]? = some (.cells #[.string (st [102]), .slice A1 1 c1, .int .i64 1, .bool false, .int .i64 4, .int .i64 3, .slice D1 1 1] 27 (0, 0)) := hSn
  clear hSn
  have G := Lib.hid (Below.refl wn.heap.size wn)
  refine TW.eff (by rfl) (fun K hK => ?_); go_simp
  refine (kat_v 2 1 _).mono ?_
  rintro e wn ⟨rfl, bn⟩
  have hSn : wn.heap[ga]? = some (.cells #[.string (st [102]), .slice A1 1 c1, .int .i64 1, .bool false, .int .i64 4, .int .i64 3, .slice D1 1 1] 27 (0, 0)) := (bn.block ga (Array.getElem?_eq_some_iff.1 hS).1).trans hS
  replace E := Lib.hid (E.out.trans (bn.mono E.out.size))
  replace F := Lib.hid (F.out.trans (bn.mono F.out.size))
  (try replace G := Lib.hid (G.out.trans (bn.mono G.out.size)))
  clear hS bn
  go_wp2_with fail; refine hK.out _ _ hSn ?_; clear hK; (try simp only [Act.put, List.setIfInBounds_toArray, List.set_cons_zero, List.set_cons_succ])
  have hS : wn.heap[ga]? = some (.cells #[.string (st [102]), .slice A1 1 c1, .int .i64 1, .bool false, .int .i64 4, .int .i64 3, .slice D1 1 1] 27 (0, 0)) := hSn
  clear hSn
  refine TW.eff (by rfl) (fun K hK => ?_); go_simp
  have C := Lib.hid (clit wn [(2, 1)] #[.int .i64 2, .int .u64 1] 49 rfl)
  have bn := (Below.refl wn.heap.size wn).alloc (Nat.le_refl _) (.cells #[.int .i64 2, .int .u64 1] 49)
  have hzb : wn.heap.size + 1 ≤ (wn.alloc (.cells #[.int .i64 2, .int .u64 1] 49)).heap.size := by simp
  replace E := Lib.hid (E.out.trans (bn.mono E.out.size))
  replace F := Lib.hid (F.out.trans (bn.mono F.out.size))
  (try replace G := Lib.hid (G.out.trans (bn.mono G.out.size)))
  have hSn : (wn.alloc (.cells #[.int .i64 2, .int .u64 1] 49)).heap[ga]? = some (.cells #[.string (st [102]), .slice A1 1 c1, .int .i64 1, .bool false, .int .i64 4, .int .i64 3, .slice D1 1 1] 27 (0, 0)) := (bn.block ga (Array.getElem?_eq_some_iff.1 hS).1).trans hS
  clear hS bn
  generalize wn.alloc (.cells #[.int .i64 2, .int .u64 1] 49) = wb at *
  generalize wn.heap.size = gb at *
  (try (go_wp2_with fail)); refine hK.out _ _ hSn ?_; clear hK; (try simp only [Act.put, List.setIfInBounds_toArray, List.set_cons_zero, List.set_cons_succ])
  have hS : wb.heap[ga]? = some (.cells #[.string (st [102]), .slice A1 1 c1, .int .i64 1, .bool false, .int .i64 4, .int .i64 3, .slice D1 1 1] 27 (0, 0)) := hSn
  clear hSn
  refine TW.eff (by rfl) (fun K hK => ?_); go_simp
  refine (filled_v [102] 2 8 (some ⟨gb, 0, none⟩) 1 1 (gb + 1) [(2, 1)] wb C.out (by omega) (by omega)).mono ?_
  rintro e wn ⟨A2, c2, D2, rfl, ho, hd, bn⟩
  have RC := Lib.hid (rcF_reads (dv := 2) ho hd (by omega) (fit1 2 2 1 (by omega)))
  clear ho hd C hzb
  have hSn : wn.heap[ga]? = some (.cells #[.string (st [102]), .slice A1 1 c1, .int .i64 1, .bool false, .int .i64 4, .int .i64 3, .slice D1 1 1] 27 (0, 0)) := (bn.block ga (Array.getElem?_eq_some_iff.1 hS).1).trans hS
  replace E := Lib.hid (E.out.trans (bn.mono E.out.size))
  replace F := Lib.hid (F.out.trans (bn.mono F.out.size))
  (try replace G := Lib.hid (G.out.trans (bn.mono G.out.size)))
  clear hS bn
  go_wp2_with fail; refine hK.out _ _ hSn ?_; clear hK; (try simp only [Act.put, List.setIfInBounds_toArray, List.set_cons_zero, List.set_cons_succ])
  have hS : wn.heap[ga]? = some (.cells #[.string (st [102]), .slice A1 1 c1, .int .i64 1, .bool false, .int .i64 4, .int .i64 3, .slice D1 1 1] 27 (0, 0)) := hSn
  clear hSn
  have RBn := Lib.hid ((RB.out.below G.out).more G.out.size)
  clear G
  refine TW.eff (by rfl) (fun K hK => ?_); go_simp
  refine (does_v (rcF 1 7 [(1, 2)]) (rcF 2 8 [(2, 1)]) ⟨A3, 1, c3, D3, 1, 1⟩ ⟨A2, 1, c2, D2, 1, 1⟩ 0 1 wn.heap.size wn (HE.out.below E.out) (RBn.out) (RC.out) (Nat.le_refl _) ex2.1 ex2.2).mono ?_
  rintro e wn ⟨rfl, bn⟩
  have hSn : wn.heap[ga]? = some (.cells #[.string (st [102]), .slice A1 1 c1, .int .i64 1, .bool false, .int .i64 4, .int .i64 3, .slice D1 1 1] 27 (0, 0)) := (bn.block ga (Array.getElem?_eq_some_iff.1 hS).1).trans hS
  replace E := Lib.hid (E.out.trans (bn.mono E.out.size))
  replace F := Lib.hid (F.out.trans (bn.mono F.out.size))
  (try replace G := Lib.hid (G.out.trans (bn.mono G.out.size)))
  clear hS bn
  go_wp2_with fail; refine hK.out _ _ hSn ?_; clear hK; (try simp only [Act.put, List.setIfInBounds_toArray, List.set_cons_zero, List.set_cons_succ])
  have hS : wn.heap[ga]? = some (.cells #[.string (st [102]), .slice A1 1 c1, .int .i64 1, .bool false, .int .i64 4, .int .i64 3, .slice D1 1 1] 27 (0, 0)) := hSn
  clear hSn
  clear RB RBn RC
  iterate 2 ((first | (refine TW.val2 (v := ?_) ?_ ?_ ?_ ?_ ?_; rotate_left; (focus rfl); (focus (intro W hSW; (try dsimp only at hSW); (try (obtain ⟨hS1, hSW⟩ := hSW)); (try (obtain ⟨hS2, hSW⟩ := hSW)); (try (obtain ⟨hS3, hSW⟩ := hSW)); (try (obtain ⟨hS4, hSW⟩ := hSW)); (try (obtain ⟨hS5, hSW⟩ := hSW)); (try (obtain ⟨hS6, hSW⟩ := hSW)); (try (obtain ⟨hS7, hSW⟩ := hSW)); (try (obtain ⟨hS8, hSW⟩ := hSW)); go_simp; (try with_reducible rfl); done)); (focus exact fun _ _ _ h => h); (focus assumption)) | (refine TW.skip (e := false) ?_ ?_ ?_ ?_; (focus rfl); (focus exact fun _ _ _ h => h); (focus assumption))); simp only [Act.put, List.setIfInBounds_toArray, List.set_cons_zero, List.set_cons_succ])
  refine TW.val2 (v := .agg #[.string (st [102]), .slice A1 1 c1, .int .i64 1, .bool false, .int .i64 4, .int .i64 3, .slice D1 1 1]) ?_ ?_ ?_ ?_ ?_
  (focus rfl)
  (focus exact fun V hV => exec_load_slot 27 (.tmp 2) rfl ⟨ga, 0, none⟩ rfl (#[.string (st [102]), .slice A1 1 c1, .int .i64 1, .bool false, .int .i64 4, .int .i64 3, .slice D1 1 1]).toList _ (rcells_at hV (fun j v h => by rw [Nat.zero_add]; simpa using h)) Tryd.underlying27 rfl HI.out)
  (focus exact fun _ _ _ h => h)
  (focus exact hS)
  simp only [Act.put, List.setIfInBounds_toArray, List.set_cons_zero, List.set_cons_succ]
  iterate 1 ((first | (refine TW.val2 (v := ?_) ?_ ?_ ?_ ?_ ?_; rotate_left; (focus rfl); (focus (intro W hSW; (try dsimp only at hSW); (try (obtain ⟨hS1, hSW⟩ := hSW)); (try (obtain ⟨hS2, hSW⟩ := hSW)); (try (obtain ⟨hS3, hSW⟩ := hSW)); (try (obtain ⟨hS4, hSW⟩ := hSW)); (try (obtain ⟨hS5, hSW⟩ := hSW)); (try (obtain ⟨hS6, hSW⟩ := hSW)); (try (obtain ⟨hS7, hSW⟩ := hSW)); (try (obtain ⟨hS8, hSW⟩ := hSW)); go_simp; (try with_reducible rfl); done)); (focus exact fun _ _ _ h => h); (focus assumption)) | (refine TW.skip (e := false) ?_ ?_ ?_ ?_; (focus rfl); (focus exact fun _ _ _ h => h); (focus assumption))); simp only [Act.put, List.setIfInBounds_toArray, List.set_cons_zero, List.set_cons_succ])
  refine TW.eff (by rfl) (fun K hK => ?_); go_simp
  refine (kat_v 2 2 _).mono ?_
  rintro e wn ⟨rfl, bn⟩
  have hSn : wn.heap[ga]? = some (.cells #[.string (st [102]), .slice A1 1 c1, .int .i64 1, .bool false, .int .i64 4, .int .i64 3, .slice D1 1 1] 27 (0, 0)) := (bn.block ga (Array.getElem?_eq_some_iff.1 hS).1).trans hS
  replace E := Lib.hid (E.out.trans (bn.mono E.out.size))
  replace F := Lib.hid (F.out.trans (bn.mono F.out.size))
  (try replace G := Lib.hid (G.out.trans (bn.mono G.out.size)))
  clear hS bn
  go_wp2_with fail; refine hK.out _ _ hSn ?_; clear hK; (try simp only [Act.put, List.setIfInBounds_toArray, List.set_cons_zero, List.set_cons_succ])
  have hS : wn.heap[ga]? = some (.cells #[.string (st [102]), .slice A1 1 c1, .int .i64 1, .bool false, .int .i64 4, .int .i64 3, .slice D1 1 1] 27 (0, 0)) := hSn
  clear hSn
  refine TW.eff (by rfl) (fun K hK => ?_); go_simp
  have C := Lib.hid (clit wn [(2, 2)] #[.int .i64 2, .int .u64 2] 49 rfl)
  have bn := (Below.refl wn.heap.size wn).alloc (Nat.le_refl _) (.cells #[.int .i64 2, .int .u64 2] 49)
  have hzb : wn.heap.size + 1 ≤ (wn.alloc (.cells #[.int .i64 2, .int .u64 2] 49)).heap.size := by simp
  replace E := Lib.hid (E.out.trans (bn.mono E.out.size))
  replace F := Lib.hid (F.out.trans (bn.mono F.out.size))
  (try replace G := Lib.hid (G.out.trans (bn.mono G.out.size)))
  have hSn : (wn.alloc (.cells #[.int .i64 2, .int .u64 2] 49)).heap[ga]? = some (.cells #[.string (st [102]), .slice A1 1 c1, .int .i64 1, .bool false, .int .i64 4, .int .i64 3, .slice D1 1 1] 27 (0, 0)) := (bn.block ga (Array.getElem?_eq_some_iff.1 hS).1).trans hS
  clear hS bn
  generalize wn.alloc (.cells #[.int .i64 2, .int .u64 2] 49) = wb at *
  generalize wn.heap.size = gb at *
  (try (go_wp2_with fail)); refine hK.out _ _ hSn ?_; clear hK; (try simp only [Act.put, List.setIfInBounds_toArray, List.set_cons_zero, List.set_cons_succ])
  have hS : wb.heap[ga]? = some (.cells #[.string (st [102]), .slice A1 1 c1, .int .i64 1, .bool false, .int .i64 4, .int .i64 3, .slice D1 1 1] 27 (0, 0)) := hSn
  clear hSn
  refine TW.eff (by rfl) (fun K hK => ?_); go_simp
  refine (filled_v [102] 2 8 (some ⟨gb, 0, none⟩) 1 1 (gb + 1) [(2, 2)] wb C.out (by omega) (by omega)).mono ?_
  rintro e wn ⟨A2, c2, D2, rfl, ho, hd, bn⟩
  have RC := Lib.hid (rcF_reads (dv := 2) ho hd (by omega) (fit1 2 2 2 (by omega)))
  clear ho hd C hzb
  have hSn : wn.heap[ga]? = some (.cells #[.string (st [102]), .slice A1 1 c1, .int .i64 1, .bool false, .int .i64 4, .int .i64 3, .slice D1 1 1] 27 (0, 0)) := (bn.block ga (Array.getElem?_eq_some_iff.1 hS).1).trans hS
  replace E := Lib.hid (E.out.trans (bn.mono E.out.size))
  replace F := Lib.hid (F.out.trans (bn.mono F.out.size))
  (try replace G := Lib.hid (G.out.trans (bn.mono G.out.size)))
  clear hS bn
  go_wp2_with fail; refine hK.out _ _ hSn ?_; clear hK; (try simp only [Act.put, List.setIfInBounds_toArray, List.set_cons_zero, List.set_cons_succ])
  have hS : wn.heap[ga]? = some (.cells #[.string (st [102]), .slice A1 1 c1, .int .i64 1, .bool false, .int .i64 4, .int .i64 3, .slice D1 1 1] 27 (0, 0)) := hSn
  clear hSn
  have RAn := Lib.hid ((RA.out.below (F.out.mono hga)).more (Nat.le_trans hga F.out.size))
  refine TW.eff (by rfl) (fun K hK => ?_); go_simp
  refine (does_v (rcF 1 7 [(1, 1)]) (rcF 2 8 [(2, 2)]) ⟨A1, 1, c1, D1, 1, 1⟩ ⟨A2, 1, c2, D2, 1, 1⟩ 1 3 wn.heap.size wn (HE.out.below E.out) (RAn.out) (RC.out) (Nat.le_refl _) ex3.1 ex3.2).mono ?_
  rintro e wn ⟨rfl, bn⟩
  have hSn : wn.heap[ga]? = some (.cells #[.string (st [102]), .slice A1 1 c1, .int .i64 1, .bool false, .int .i64 4, .int .i64 3, .slice D1 1 1] 27 (0, 0)) := (bn.block ga (Array.getElem?_eq_some_iff.1 hS).1).trans hS
  replace E := Lib.hid (E.out.trans (bn.mono E.out.size))
  replace F := Lib.hid (F.out.trans (bn.mono F.out.size))
  (try replace G := Lib.hid (G.out.trans (bn.mono G.out.size)))
  clear hS bn
  go_wp2_with fail; refine hK.out _ _ hSn ?_; clear hK; (try simp only [Act.put, List.setIfInBounds_toArray, List.set_cons_zero, List.set_cons_succ])
  have hS : wn.heap[ga]? = some (.cells #[.string (st [102]), .slice A1 1 c1, .int .i64 1, .bool false, .int .i64 4, .int .i64 3, .slice D1 1 1] 27 (0, 0)) := hSn
  clear hSn
  iterate 2 ((first | (refine TW.val2 (v := ?_) ?_ ?_ ?_ ?_ ?_; rotate_left; (focus rfl); (focus (intro W hSW; (try dsimp only at hSW); (try (obtain ⟨hS1, hSW⟩ := hSW)); (try (obtain ⟨hS2, hSW⟩ := hSW)); (try (obtain ⟨hS3, hSW⟩ := hSW)); (try (obtain ⟨hS4, hSW⟩ := hSW)); (try (obtain ⟨hS5, hSW⟩ := hSW)); (try (obtain ⟨hS6, hSW⟩ := hSW)); (try (obtain ⟨hS7, hSW⟩ := hSW)); (try (obtain ⟨hS8, hSW⟩ := hSW)); go_simp; (try with_reducible rfl); done)); (focus exact fun _ _ _ h => h); (focus assumption)) | (refine TW.skip (e := false) ?_ ?_ ?_ ?_; (focus rfl); (focus exact fun _ _ _ h => h); (focus assumption))); simp only [Act.put, List.setIfInBounds_toArray, List.set_cons_zero, List.set_cons_succ])
  refine TW.done ?_
  go_wp2
  go_ret
  exact ⟨rfl, E.out⟩
end Go.Proofs.YtndekohimfjdeaaDoor
