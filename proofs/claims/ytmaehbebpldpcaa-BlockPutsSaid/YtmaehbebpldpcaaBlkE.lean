/-
  Blocks: the reference's Cut.
-/
import Derived.Test.YtmaehbebpldpcaaBlkD
import Derived.Test.YtmaehbebpldpcaaShaZb
import Derived.Great.BuildSlice
namespace Go.Proofs.Ytmaehbebpldpcaa
open Go.RowKit Go.Shelf
theorem results_row_tmp {P : Program} {fn : Func} {p q : Tmp} {ty : TypeId} (h : fn.results = #[.cell p ty, .tmp q]) (tmps : Array Value) (w : World) (g : Nat) (t : TypeId) (cs : Array Value) (fr : Nat × Nat) (d : TypeDesc)
    (hp : tmps.getD p undef = .pointer (some ⟨g, 0, none⟩)) (hg : w.heap[g]? = some (.cells cs t fr))
    (hu : P.underlying ty = some d) (hd : (match d with | .struct _ | .array _ _ => true | _ => false) = true) (hi : (P.info? ty).map (·.size) = some cs.size) :
    (results fn tmps).run P w = .ok (.tuple #[.agg cs, tmps.getD q undef]) w := by
  have hp' : tmps[p]?.getD undef = .pointer (some ⟨g, 0, none⟩) := by simpa using hp
  simp [results, h, hp', asAddr, run_loadVar_row w g t ty cs fr d hg hu hd hi]
theorem chunkB_reads {W : World} {B N z k : Nat} {ad : Addr} {L : List UInt8} (h : BReads W B (some ad) N L) (hB : B ≤ W.heap.size) (hk : k * z < N) :
    BReads W W.heap.size (some (ad.add (k * z))) (chunkL N z k) (chunkB L z k) := by
  have hl := h.len
  refine ⟨by simp [chunkB, chunkL]; omega, fun _ => ?_⟩
  obtain ⟨ad', e, hb, hc⟩ := h.2 (by omega)
  injection e with e; subst e
  refine ⟨_, rfl, by rw [block_of_add]; omega, fun j u hu => ?_⟩
  rw [add_of_add]
  refine hc _ u ?_
  rw [← hu, chunkB, List.getElem?_map, List.getElem?_map, List.getElem?_take]
  have hj : j < z := by
    have := (List.getElem?_eq_some_iff.1 hu).1
    simp [chunkB] at this
    omega
  rw [if_pos hj, List.getElem?_drop]
theorem CutI.grow' {w0 : World} {B g4 g6 k : Nat} {sz ln : Int} {ds : List Dg} {W W1 W3 : World} (hk : ds.length = k) (h : CutI w0 B g4 g6 sz ln ds W) (h0 : w0.heap.size ≤ g4) (h46 : g4 < g6) (h6B : g6 < B) {A A' : Option Addr} {c c' : Nat} (hl : W.heap[g6]? = some (.cells #[.int .i64 sz, .int .i64 ln, .slice A k c] 24 (0, 0))) (ho : W.ownsRow B 59 32 (.slice A k c) k (ds.flatMap Dg.cells))
    (hb : Below W.heap.size W W1) (d : Dg) (ho3 : W3.ownsRow B 59 32 (.slice A' (k + 1) c') (k + 1) (ds.flatMap Dg.cells ++ d.cells)) (hg : W1.grownBy W3 (Value.slice A k c).ownBlock) :
    CutI w0 B g4 g6 sz ln (ds ++ [d]) (W3.setCell ⟨g6, 2, none⟩ (.slice A' (k + 1) c')) ∧ KeepsOthers W (W3.setCell ⟨g6, 2, none⟩ (.slice A' (k + 1) c')) ∧ ∀ b, b < B → b ≠ g6 → (W3.setCell ⟨g6, 2, none⟩ (.slice A' (k + 1) c')).heap[b]? = W.heap[b]? := by
  subst hk
  exact h.grow h0 h46 h6B hl ho hb d ho3 hg
theorem dg_one (W : World) (d : Dg) (t : TypeId) : ∀ j u, d.cells[j]? = some u → (W.alloc (.cells d.cells.toArray t)).cell? ((⟨W.heap.size, 0, none⟩ : Addr).add j) = some u := by
  intro j u hu
  rw [add_head, cell_new W d.cells.toArray t j]
  simpa using hu
theorem fill_dg (d : Dg) (z : Array Value) (hz : z.size = 32) : Instr.fill (fun i => some (i * 32, 32)) z [(0, .agg d.cells.toArray)] = some d.cells.toArray := by
  have h := Great.fill_whole (s := 32) (by decide) [.agg d.cells.toArray] z (by intro v hv; obtain rfl := List.mem_singleton.1 hv; simp [Value.cells, Dg.cells_len]) (by simp [hz])
  simpa [Value.cells] using h
theorem wp_build_dg {o : Oper} {a : Act} {w : World} {K : Act → World → Prop} {Q : Exit → Act → World → Prop} (x : Operand) (ho : o.op = .buildSlice 22 1 #[(0, x)]) (d : Dg) (hx : a.eval x = .agg d.cells.toArray)
    (h : K (a.put o.dst (.slice (some ⟨w.heap.size, 0, none⟩) 1 1)) (w.alloc (.cells d.cells.toArray 59))) : o.wp Try.prog a w K Q := by
  obtain ⟨i0, hi, hy0, hy1, hy2⟩ := info_parts info_dg
  refine wp_buildSlice (P := Try.prog) 22 59 1 _ ho d.cells.toArray i0 (.agg #[Value.int .u8 0, Value.int .u8 0, Value.int .u8 0, Value.int .u8 0, Value.int .u8 0, Value.int .u8 0, Value.int .u8 0, Value.int .u8 0, Value.int .u8 0, Value.int .u8 0, Value.int .u8 0, Value.int .u8 0, Value.int .u8 0, Value.int .u8 0, Value.int .u8 0, Value.int .u8 0, Value.int .u8 0, Value.int .u8 0, Value.int .u8 0, Value.int .u8 0, Value.int .u8 0, Value.int .u8 0, Value.int .u8 0, Value.int .u8 0, Value.int .u8 0, Value.int .u8 0, Value.int .u8 0, Value.int .u8 0, Value.int .u8 0, Value.int .u8 0, Value.int .u8 0, Value.int .u8 0]) Try.underlying22 hi hy0 (by rw [hy1]; decide) (by rw [hy1]; decide) ?_ h
  rw [hy1]
  have hp : ((#[(0, x)] : Array (Nat × Operand)).map fun (i, y) => (i, a.eval y)).toList = [(0, .agg d.cells.toArray)] := by simp [hx]
  rw [hp]
  refine fill_dg d _ ?_
  rw [Array.size_map, Array.size_range]
theorem own_down' {w : World} {base base' K n : Nat} {e : TypeId} {v : Value} {xs : List Value} (h : w.ownsRow base e K v n xs) (hb : base' ≤ base) : w.ownsRow base' e K v n xs := by
  refine ⟨h.1, ?_⟩
  rcases h.2 with hn | ⟨g, cap, cur, ev, hg, rest⟩
  · exact .inl hn
  · exact .inr ⟨g, cap, cur, ev, Nat.le_trans hb hg, rest⟩
theorem Dg.one (d : Dg) : ∀ u ∈ d.cells, u.oneCell' = true := by
  intro u hu
  obtain ⟨x, _, rfl⟩ := List.mem_map.1 hu
  rfl
theorem cutL_take (L : List UInt8) (z m : Nat) : (List.range m).map (fun k => dgOf (chunkB L z k)) = (List.range m).map (fun k => dgOf (chunkB L z k)) := rfl
theorem range_snoc {β : Type} (f : Nat → β) (k : Nat) : (List.range (k + 1)).map f = (List.range k).map f ++ [f k] := by rw [List.range_succ, List.map_append]; rfl
abbrev zeroL : Array Value := #[.int .i64 0, .int .i64 0, .slice none 0 0]
set_option maxRecDepth 100000 in
set_option maxHeartbeats 8000000 in
theorem rcut_v (A : Option Addr) (n c : Nat) (L : List UInt8) (z : Int) (w : World) (hr : BReads w w.heap.size A n L) (hn : n ≤ 1000000) (hnc : n ≤ c) :
    Calls Try.prog 12 #[.slice A n c, .int .i64 z] w fun e w' => ∃ A' c', e = .returned (.tuple #[.agg #[.int .i64 (cutP L z).2.1, .int .i64 (cutP L z).2.2.1, .slice A' (cutP L z).2.2.2.length c'], .int .i64 ((cutP L z).1 : Int)]) ∧
      w'.ownsRow w.heap.size 59 32 (.slice A' (cutP L z).2.2.2.length c') (cutP L z).2.2.2.length ((cutP L z).2.2.2.flatMap Dg.cells) ∧ Below w.heap.size w w' := by
  have HR := Lib.hid hr
  have hll := hr.len
  have HI := Lib.hid (show (Try.prog.info? 24).map (·.size) = some 3 by kernel_rfl)
  have BA := Lib.hid ((Below.refl w.heap.size w).alloc (Nat.le_refl _) (.cells #[.int .i64 0, .int .i64 0, .slice none 0 0] 24))
  have X0 := Lib.hid (heap_alloc_new w (.cells #[.int .i64 0, .int .i64 0, .slice none 0 0] 24))
  have hz1 : (w.alloc (.cells #[.int .i64 0, .int .i64 0, .slice none 0 0] 24)).heap.size = w.heap.size + 1 := by simp
  clear hr
  go_enter Try.func12, Try.ntmps12
  go_upto_region 1 with fail
  generalize w.alloc (.cells #[.int .i64 0, .int .i64 0, .slice none 0 0] 24) = w1 at *
  have XS := Lib.hid (setRow_heap w1 w.heap.size _ #[.int .i64 0, .int .i64 0, .slice none 0 0] _ _ X0.out)
  have BS := Lib.hid (below_setRow BA.out (Nat.le_refl _) #[.int .i64 0, .int .i64 0, .slice none 0 0])
  by_cases h1 : z < 1
  · have d1 : decide (z < 1) = true := by simpa using h1
    have HC := Lib.hid (show cutP L z = (2, 0, 0, []) by unfold cutP; rw [if_pos h1])
    go_wp2_with (first
      | (refine wpList_store_row rfl 24 (.tmp 4) (.tmp 14) rfl w.heap.size #[.int .i64 0, .int .i64 0, .slice none 0 0] rfl rfl 24 _ X0.out HI.out rfl (by simp [Value.oneCell']) ?_)
      | fail)
    exact bodyPost_ret (results_row_tmp Try.results12 _ _ w.heap.size _ #[.int .i64 0, .int .i64 0, .slice none 0 0] _ _ rfl XS.out Try.underlying24 rfl HI.out) rfl
      ⟨none, 0, by rw [HC.out]; rfl, by rw [HC.out]; exact World.ownsRow_nil _ _ _ 32, BS.out⟩
  have d1 : decide (z < 1) = false := by simpa using h1
  by_cases h2 : 65536 < z
  · have d2 : decide (65536 < z) = true := by simpa using h2
    have HC := Lib.hid (show cutP L z = (2, 0, 0, []) by unfold cutP; rw [if_neg h1, if_pos h2])
    go_wp2_with (first
      | (refine wpList_store_row rfl 24 (.tmp 4) (.tmp 14) rfl w.heap.size #[.int .i64 0, .int .i64 0, .slice none 0 0] rfl rfl 24 _ X0.out HI.out rfl (by simp [Value.oneCell']) ?_)
      | fail)
    exact bodyPost_ret (results_row_tmp Try.results12 _ _ w.heap.size _ #[.int .i64 0, .int .i64 0, .slice none 0 0] _ _ rfl XS.out Try.underlying24 rfl HI.out) rfl
      ⟨none, 0, by rw [HC.out]; rfl, by rw [HC.out]; exact World.ownsRow_nil _ _ _ 32, BS.out⟩
  have d2 : decide (65536 < z) = false := by simpa using h2
  have h3 : ¬ 4194304 < n := by omega
  have d3 : decide (4194304 < n) = false := by simpa using h3
  obtain ⟨Z, rfl⟩ : ∃ Z : Nat, z = (Z : Int) := ⟨z.toNat, by omega⟩
  have hZ : 0 < Z := by omega
  have hZ2 : Z ≤ 65536 := by omega
  have CV := Lib.hid (rcount_v (n : Int) (Z : Int) w1 (by omega) (by omega) (by omega) (by omega))
  have HN := Lib.hid (chunkN_int n Z hZ)
  rw [HN.out] at CV
  by_cases h4 : 1024 < chunkN n Z
  · have d4 : decide (1024 < chunkN n Z) = true := by simpa using h4
    have HC := Lib.hid (show cutP L (Z : Int) = (3, 0, 0, []) by unfold cutP; rw [if_neg h1, if_neg h2, hll, if_neg (by omega), HN.out, if_pos (by omega)])
    go_wp2_with fail
    refine CV.out.mono ?_
    rintro e _ ⟨rfl, rfl⟩
    go_wp2_with (first
      | (refine wpList_store_row rfl 24 (.tmp 4) (.tmp 25) rfl w.heap.size #[.int .i64 0, .int .i64 0, .slice none 0 0] rfl rfl 24 _ X0.out HI.out rfl (by simp [Value.oneCell']) ?_)
      | fail)
    exact bodyPost_ret (results_row_tmp Try.results12 _ _ w.heap.size _ #[.int .i64 0, .int .i64 0, .slice none 0 0] _ _ rfl XS.out Try.underlying24 rfl HI.out) rfl
      ⟨none, 0, by rw [HC.out]; rfl, by rw [HC.out]; exact World.ownsRow_nil _ _ _ 32, BS.out⟩
  have d4 : decide (1024 < chunkN n Z) = false := by simpa using h4
  have HC := Lib.hid (show cutP L (Z : Int) = (0, (Z : Int), (n : Int), cutL L Z) by unfold cutP; rw [if_neg h1, if_neg h2, hll, if_neg (by omega), HN.out, if_neg (by omega)]; rfl)
  clear h1 h2 h3 XS BS
  go_wp2_with fail
  refine CV.out.mono ?_
  rintro e _ ⟨rfl, rfl⟩
  have Y0 := Lib.hid (heap_alloc_new w1 (.cells #[.int .i64 0, .int .i64 0, .slice none 0 0] 24))
  have X1 := Lib.hid ((Below.heap_alloc w1 (.cells #[.int .i64 (Z : Int), .int .i64 (n : Int), .slice none 0 0] 24) w.heap.size (by omega)).trans X0.out)
  have Y1 := Lib.hid (heap_alloc_new w1 (.cells #[.int .i64 (Z : Int), .int .i64 (n : Int), .slice none 0 0] 24))
  have BB := Lib.hid (BA.out.alloc (by omega) (.cells #[.int .i64 (Z : Int), .int .i64 (n : Int), .slice none 0 0] 24))
  have hz2 : (w1.alloc (.cells #[.int .i64 (Z : Int), .int .i64 (n : Int), .slice none 0 0] 24)).heap.size = w.heap.size + 2 := by simp [hz1]
  go_wp2_with fail
  generalize w1.alloc (.cells #[.int .i64 (Z : Int), .int .i64 (n : Int), .slice none 0 0] 24) = w2 at *
  have C0 := Lib.hid (show CutI w (w.heap.size + 2) w.heap.size (w.heap.size + 1) (Z : Int) (n : Int) ((List.range 0).map fun k => dgOf (chunkB L Z k)) w2 from
    ⟨X1.out, ⟨none, 0, by rw [← hz1]; exact Y1.out, World.ownsRow_nil _ _ _ 32⟩, BB.out, by omega⟩)
  clear X0 Y0 X1 Y1 BA BB CV
  go_loopw [7] (fun i wr => ∃ k : Nat, k ≤ chunkN n Z ∧ i = .int .i64 ((k * Z : Nat) : Int) ∧ CutI w (w.heap.size + 2) w.heap.size (w.heap.size + 1) (Z : Int) (n : Int) ((List.range k).map fun k => dgOf (chunkB L Z k)) wr) (fun i _ => n + Z - (intOf i).toNat)
  case atStart => exact ⟨0, Nat.zero_le _, by simp, C0.out⟩
  case round =>
    clear C0
    obtain ⟨k, hk, rfl, hci⟩ := hrel
    have CI := Lib.hid hci
    clear hci
    by_cases hlt : k < chunkN n Z
    · have hkz := (chunk_lt hZ).1 hlt
      obtain ⟨ad, rfl, _, _⟩ := HR.out.2 (by omega)
      have hdl : ((List.range k).map fun k => dgOf (chunkB L Z k)).length = k := by simp
      obtain ⟨A6, c6, h61, h62⟩ := CI.out.h6
      have CR := Lib.hid (fun (V : World) (hV : Below wr.heap.size wr V) => chunkB_reads (Reads.below HR.out (CI.out.hb.trans (hV.mono CI.out.hb.size))) (show w.heap.size ≤ V.heap.size from Nat.le_trans CI.out.hb.size hV.size) hkz)
      obtain ⟨d, hd⟩ : ∃ d, dgOf (chunkB L Z k) = d := ⟨_, rfl⟩
      have OV := Lib.hid (fun (V : World) (hV : Below wr.heap.size wr V) (cc : Nat) => rof_v (some (ad.add (k * Z))) (chunkL n Z k) cc (chunkB L Z k) V (CR.out V hV) (by unfold chunkL; omega))
      have HD := Lib.hid (show ((sha ((chunkB L Z k).map UInt8.toNat)).map fun x : Nat => Value.int .u8 (x : Int)) = d.cells by rw [← hd]; rfl)
      rw [HD.out] at OV
      have HS := Lib.hid (show (List.range (k + 1)).map (fun k => dgOf (chunkB L Z k)) = ((List.range k).map fun k => dgOf (chunkB L Z k)) ++ [d] by rw [range_snoc, hd])
      generalize hds : ((List.range k).map fun k => dgOf (chunkB L Z k)) = ds at *
      rw [hdl] at h61 h62
      have H61 := Lib.hid h61
      have H62 := Lib.hid h62
      have c62 : wr.cell? ⟨w.heap.size + 1, 2, none⟩ = some (.slice A6 k c6) := by rw [cell_of_row _ _ 2 _ _ _ H61.out]; rfl
      clear h61 h62 hd CR HD hds
      obtain ⟨q, hq⟩ : ∃ q, k * Z = q := ⟨_, rfl⟩
      obtain ⟨m, hm⟩ : ∃ m, q + Z = m := ⟨_, rfl⟩
      have HL := Lib.hid (show chunkL n Z k = min m n - q by unfold chunkL; omega)
      rw [HL.out, hq] at OV
      rw [hq] at hkz ⊢
      have HQ := Lib.hid hq
      have HM := Lib.hid hm
      have e1 : IntKind.i64.wrap ((q : Int) + (Z : Int)) = (m : Int) := by rw [IntWalk.i64_in _ ⟨by omega, by omega⟩]; omega
      have u1 : (0 : Int) ≤ (q : Int) := by omega
      have u2 : q ≤ n := by omega
      have u3 : ¬ (c = q) := by omega
      have u4 : ¬ (n = q) := by omega
      have u5 : ¬ (m = q) := by omega
      have u6 : q ≤ m := by omega
      have hk2 : k ≤ 1024 := by omega
      clear hq hm HL
      obtain ⟨i0, hi, hy0, hy1, hy2⟩ := info_parts info_dg
      go_upto_region 9 with fail
      by_cases hmn : m < n
      · rw [Nat.min_eq_left (by omega)] at OV
        have u7 : m ≤ c := by omega
        refine wp_region_E 13 [(0, 1), (1, 2), (2, 1), (3, 1), (4, 1), (5, 1), (6, 1), (7, 1), (8, 1), (9, 0), (10, 1), (11, 0), (12, 0), (13, 4), (14, 3), (15, 4)] (fun _ => True) (fun V => V.cell? ⟨w.heap.size + 1, 2, none⟩ = some (.slice A6 k c6)) (by kernel_rfl) (by kernel_rfl) (by kernel_rfl) (by kernel_rfl) (by kernel_rfl) ?_
        intro dd
        simp only [outE, List.getElem?_cons_zero, List.getElem?_cons_succ, Option.getD_some]
        have hF : True := trivial
        have hG : wr.drew.cell? ⟨w.heap.size + 1, 2, none⟩ = some (.slice A6 k c6) := c62
        have BW := Lib.hid ((Below.refl wr.heap.size wr).drew)
        generalize wr.drew = w3 at *
        iterate 1 (refine TE.val1 (v := ?_) ?_ ?_ ?_ ?_ ?_ ?_; rotate_left; (focus rfl); (focus (intro W hSW; (try dsimp only at hSW); (try (obtain ⟨hS1, hSW⟩ := hSW)); (try (obtain ⟨hS2, hSW⟩ := hSW)); (try (obtain ⟨hS3, hSW⟩ := hSW)); (try (obtain ⟨hS4, hSW⟩ := hSW)); (try (obtain ⟨hS5, hSW⟩ := hSW)); go_simp; (try with_reducible rfl); done)); (focus exact fun _ _ _ h => h); (focus exact hF); (focus exact hG); simp only [Act.put, List.setIfInBounds_toArray, List.set_cons_zero, List.set_cons_succ])
        iterate 1 (refine TE.val2 (v := ?_) ?_ ?_ ?_ ?_ ?_ ?_; rotate_left; (focus rfl); (focus (intro W hSW; (try dsimp only at hSW); (try (obtain ⟨hS1, hSW⟩ := hSW)); (try (obtain ⟨hS2, hSW⟩ := hSW)); (try (obtain ⟨hS3, hSW⟩ := hSW)); (try (obtain ⟨hS4, hSW⟩ := hSW)); (try (obtain ⟨hS5, hSW⟩ := hSW)); go_simp; (try with_reducible rfl); done)); (focus exact fun _ _ _ h => h); (focus exact hF); (focus exact hG); simp only [Act.put, List.setIfInBounds_toArray, List.set_cons_zero, List.set_cons_succ])
        iterate 7 (refine TE.val1 (v := ?_) ?_ ?_ ?_ ?_ ?_ ?_; rotate_left; (focus rfl); (focus (intro W hSW; (try dsimp only at hSW); (try (obtain ⟨hS1, hSW⟩ := hSW)); (try (obtain ⟨hS2, hSW⟩ := hSW)); (try (obtain ⟨hS3, hSW⟩ := hSW)); (try (obtain ⟨hS4, hSW⟩ := hSW)); (try (obtain ⟨hS5, hSW⟩ := hSW)); go_simp; (try with_reducible rfl); done)); (focus exact fun _ _ _ h => h); (focus exact hF); (focus exact hG); simp only [Act.put, List.setIfInBounds_toArray, List.set_cons_zero, List.set_cons_succ])
        refine TE.eff0 (by rfl) (fun K hK => ?_); go_simp
        (try (go_wp2_with fail)); refine hK.out _ _ trivial hG ?_; clear hK; (try simp only [Act.put, List.setIfInBounds_toArray, List.set_cons_zero, List.set_cons_succ])
        iterate 1 (refine TE.val1 (v := ?_) ?_ ?_ ?_ ?_ ?_ ?_; rotate_left; (focus rfl); (focus (intro W hSW; (try dsimp only at hSW); (try (obtain ⟨hS1, hSW⟩ := hSW)); (try (obtain ⟨hS2, hSW⟩ := hSW)); (try (obtain ⟨hS3, hSW⟩ := hSW)); (try (obtain ⟨hS4, hSW⟩ := hSW)); (try (obtain ⟨hS5, hSW⟩ := hSW)); go_simp; (try with_reducible rfl); done)); (focus exact fun _ _ _ h => h); (focus exact hF); (focus exact hG); simp only [Act.put, List.setIfInBounds_toArray, List.set_cons_zero, List.set_cons_succ])
        refine TE.eff0 (by rfl) (fun K hK => ?_); go_simp
        refine (OV.out w3 BW.out (c - q)).mono ?_
        rintro e w4 ⟨rfl, b4⟩
        have B4 := Lib.hid (BW.out.trans (b4.mono BW.out.size))
        have hG4 : w4.cell? ⟨w.heap.size + 1, 2, none⟩ = some (.slice A6 k c6) := (World.cell?_of_block (b4.block (w.heap.size + 1) (by have := BW.out.size; have := CI.out.hz; omega))).trans hG
        refine hK.out _ _ trivial hG4 ?_
        clear hK hG b4
        (try simp only [Act.put, List.setIfInBounds_toArray, List.set_cons_zero, List.set_cons_succ])
        refine TE.eff0 (by rfl) (fun K hK => ?_)
        refine wp_build_dg (.tmp 48) rfl d rfl ?_
        have B5 := Lib.hid (B4.out.alloc B4.out.size (.cells d.cells.toArray 59))
        have hG5 : (w4.alloc (.cells d.cells.toArray 59)).cell? ⟨w.heap.size + 1, 2, none⟩ = some (.slice A6 k c6) := (World.cell?_alloc_lt w4 _ ⟨w.heap.size + 1, 2, none⟩ (show w.heap.size + 1 < w4.heap.size by have := B4.out.size; have := CI.out.hz; omega)).trans hG4
        refine hK.out _ _ trivial hG5 ?_
        clear hK hG4
        (try simp only [Act.put, List.setIfInBounds_toArray, List.set_cons_zero, List.set_cons_succ])
        have ON := Lib.hid (dg_one w4 d 59)
        have OW := Lib.hid (own_keep' H62.out (w' := w4.alloc (.cells d.cells.toArray 59)) (fun j hj => B5.out.block j (H62.out.lt j hj).2))
        have hz5 : w.heap.size + 2 ≤ (w4.alloc (.cells d.cells.toArray 59)).heap.size := Nat.le_trans CI.out.hz B5.out.size
        generalize hw5 : w4.alloc (.cells d.cells.toArray 59) = w5 at *
        refine TE.eff4 (by rfl) (fun K hK => ?_)
        refine wp_append_own w5 (.tmp 38) (.tmp 49) 22 rfl (w.heap.size + 2) 59 i0 _ 32 32 Try.underlying22 hi hy0 hy1 hy2 rfl (by decide) (.slice A6 k c6) k (ds.flatMap Dg.cells) rfl OW.out ⟨w4.heap.size, 0, none⟩ 1 1 d.cells rfl (by rw [Dg.cells_len]) ON.out d.one (by simp only [maxLen]; omega) (by omega) hz5 ?_
        intro v' w6 ho6 hg6 _
        obtain ⟨g7, c7, rfl⟩ := ownsRow_succ ho6
        have GR := Lib.hid (CutI.grow' hdl CI.out (by omega) (by omega) (by omega) H61.out H62.out B5.out d ho6 hg6)
        have e7 : w6.heap[w.heap.size + 1]? = wr.heap[w.heap.size + 1]? := (hg6.block (w.heap.size + 1) (by omega) (fun e => by have := (H62.out.lt _ e.symm).1; omega)).trans (B5.out.block (w.heap.size + 1) (by have := CI.out.hz; omega))
        have c7' : w6.cell? ⟨w.heap.size + 1, 2, none⟩ = some (.slice A6 k c6) := (World.cell?_of_block e7).trans c62
        have f7 : w6.frozen? ⟨w.heap.size + 1, 2, none⟩ = false := frozen_of_row w6 (w.heap.size + 1) 2 _ _ (e7.trans H61.out)
        refine hK.out _ _ trivial ?_
        clear hK ho6 hg6
        (try simp only [Act.put, List.setIfInBounds_toArray, List.set_cons_zero, List.set_cons_succ])
        iterate 1 (refine TE.val3 (v := ?_) ?_ ?_ ?_ ?_ ?_; rotate_left; (focus rfl); (focus (intro W hSW; (try dsimp only at hSW); (try (obtain ⟨hS1, hSW⟩ := hSW)); (try (obtain ⟨hS2, hSW⟩ := hSW)); (try (obtain ⟨hS3, hSW⟩ := hSW)); (try (obtain ⟨hS4, hSW⟩ := hSW)); (try (obtain ⟨hS5, hSW⟩ := hSW)); go_simp; (try with_reducible rfl); done)); (focus exact fun _ _ _ h => h); (focus exact hF); simp only [Act.put, List.setIfInBounds_toArray, List.set_cons_zero, List.set_cons_succ])
        refine TE.eff4 (by rfl) (fun K hK => ?_); go_simp
        refine hK.out _ _ trivial ?_
        clear hK
        refine TE.done ?_
        go_wp2_with fail
        go_roundw
        case rel => exact ⟨k + 1, hlt, by rw [Nat.succ_mul, HQ.out, HM.out], by rw [HS.out]; exact GR.out.1⟩
        case measure => simp [intOf]; omega
      · rw [Nat.min_eq_right (by omega)] at OV
        have hmn2 : ¬ m < n := hmn
        refine wp_region_E 13 [(0, 1), (1, 2), (2, 1), (3, 1), (4, 1), (5, 1), (6, 1), (7, 1), (8, 1), (9, 0), (10, 1), (11, 0), (12, 0), (13, 4), (14, 3), (15, 4)] (fun _ => True) (fun V => V.cell? ⟨w.heap.size + 1, 2, none⟩ = some (.slice A6 k c6)) (by kernel_rfl) (by kernel_rfl) (by kernel_rfl) (by kernel_rfl) (by kernel_rfl) ?_
        intro dd
        simp only [outE, List.getElem?_cons_zero, List.getElem?_cons_succ, Option.getD_some]
        have hF : True := trivial
        have hG : wr.drew.cell? ⟨w.heap.size + 1, 2, none⟩ = some (.slice A6 k c6) := c62
        have BW := Lib.hid ((Below.refl wr.heap.size wr).drew)
        generalize wr.drew = w3 at *
        iterate 1 (refine TE.val1 (v := ?_) ?_ ?_ ?_ ?_ ?_ ?_; rotate_left; (focus rfl); (focus (intro W hSW; (try dsimp only at hSW); (try (obtain ⟨hS1, hSW⟩ := hSW)); (try (obtain ⟨hS2, hSW⟩ := hSW)); (try (obtain ⟨hS3, hSW⟩ := hSW)); (try (obtain ⟨hS4, hSW⟩ := hSW)); (try (obtain ⟨hS5, hSW⟩ := hSW)); go_simp; (try with_reducible rfl); done)); (focus exact fun _ _ _ h => h); (focus exact hF); (focus exact hG); simp only [Act.put, List.setIfInBounds_toArray, List.set_cons_zero, List.set_cons_succ])
        iterate 1 (refine TE.val2 (v := ?_) ?_ ?_ ?_ ?_ ?_ ?_; rotate_left; (focus rfl); (focus (intro W hSW; (try dsimp only at hSW); (try (obtain ⟨hS1, hSW⟩ := hSW)); (try (obtain ⟨hS2, hSW⟩ := hSW)); (try (obtain ⟨hS3, hSW⟩ := hSW)); (try (obtain ⟨hS4, hSW⟩ := hSW)); (try (obtain ⟨hS5, hSW⟩ := hSW)); go_simp; (try with_reducible rfl); done)); (focus exact fun _ _ _ h => h); (focus exact hF); (focus exact hG); simp only [Act.put, List.setIfInBounds_toArray, List.set_cons_zero, List.set_cons_succ])
        iterate 7 (refine TE.val1 (v := ?_) ?_ ?_ ?_ ?_ ?_ ?_; rotate_left; (focus rfl); (focus (intro W hSW; (try dsimp only at hSW); (try (obtain ⟨hS1, hSW⟩ := hSW)); (try (obtain ⟨hS2, hSW⟩ := hSW)); (try (obtain ⟨hS3, hSW⟩ := hSW)); (try (obtain ⟨hS4, hSW⟩ := hSW)); (try (obtain ⟨hS5, hSW⟩ := hSW)); go_simp; (try with_reducible rfl); done)); (focus exact fun _ _ _ h => h); (focus exact hF); (focus exact hG); simp only [Act.put, List.setIfInBounds_toArray, List.set_cons_zero, List.set_cons_succ])
        refine TE.eff0 (by rfl) (fun K hK => ?_); go_simp
        (try (go_wp2_with fail)); refine hK.out _ _ trivial hG ?_; clear hK; (try simp only [Act.put, List.setIfInBounds_toArray, List.set_cons_zero, List.set_cons_succ])
        iterate 1 (refine TE.val1 (v := ?_) ?_ ?_ ?_ ?_ ?_ ?_; rotate_left; (focus rfl); (focus (intro W hSW; (try dsimp only at hSW); (try (obtain ⟨hS1, hSW⟩ := hSW)); (try (obtain ⟨hS2, hSW⟩ := hSW)); (try (obtain ⟨hS3, hSW⟩ := hSW)); (try (obtain ⟨hS4, hSW⟩ := hSW)); (try (obtain ⟨hS5, hSW⟩ := hSW)); go_simp; (try with_reducible rfl); done)); (focus exact fun _ _ _ h => h); (focus exact hF); (focus exact hG); simp only [Act.put, List.setIfInBounds_toArray, List.set_cons_zero, List.set_cons_succ])
        refine TE.eff0 (by rfl) (fun K hK => ?_); go_simp
        refine (OV.out w3 BW.out (c - q)).mono ?_
        rintro e w4 ⟨rfl, b4⟩
        have B4 := Lib.hid (BW.out.trans (b4.mono BW.out.size))
        have hG4 : w4.cell? ⟨w.heap.size + 1, 2, none⟩ = some (.slice A6 k c6) := (World.cell?_of_block (b4.block (w.heap.size + 1) (by have := BW.out.size; have := CI.out.hz; omega))).trans hG
        refine hK.out _ _ trivial hG4 ?_
        clear hK hG b4
        (try simp only [Act.put, List.setIfInBounds_toArray, List.set_cons_zero, List.set_cons_succ])
        refine TE.eff0 (by rfl) (fun K hK => ?_)
        refine wp_build_dg (.tmp 48) rfl d rfl ?_
        have B5 := Lib.hid (B4.out.alloc B4.out.size (.cells d.cells.toArray 59))
        have hG5 : (w4.alloc (.cells d.cells.toArray 59)).cell? ⟨w.heap.size + 1, 2, none⟩ = some (.slice A6 k c6) := (World.cell?_alloc_lt w4 _ ⟨w.heap.size + 1, 2, none⟩ (show w.heap.size + 1 < w4.heap.size by have := B4.out.size; have := CI.out.hz; omega)).trans hG4
        refine hK.out _ _ trivial hG5 ?_
        clear hK hG4
        (try simp only [Act.put, List.setIfInBounds_toArray, List.set_cons_zero, List.set_cons_succ])
        have ON := Lib.hid (dg_one w4 d 59)
        have OW := Lib.hid (own_keep' H62.out (w' := w4.alloc (.cells d.cells.toArray 59)) (fun j hj => B5.out.block j (H62.out.lt j hj).2))
        have hz5 : w.heap.size + 2 ≤ (w4.alloc (.cells d.cells.toArray 59)).heap.size := Nat.le_trans CI.out.hz B5.out.size
        generalize hw5 : w4.alloc (.cells d.cells.toArray 59) = w5 at *
        refine TE.eff4 (by rfl) (fun K hK => ?_)
        refine wp_append_own w5 (.tmp 38) (.tmp 49) 22 rfl (w.heap.size + 2) 59 i0 _ 32 32 Try.underlying22 hi hy0 hy1 hy2 rfl (by decide) (.slice A6 k c6) k (ds.flatMap Dg.cells) rfl OW.out ⟨w4.heap.size, 0, none⟩ 1 1 d.cells rfl (by rw [Dg.cells_len]) ON.out d.one (by simp only [maxLen]; omega) (by omega) hz5 ?_
        intro v' w6 ho6 hg6 _
        obtain ⟨g7, c7, rfl⟩ := ownsRow_succ ho6
        have GR := Lib.hid (CutI.grow' hdl CI.out (by omega) (by omega) (by omega) H61.out H62.out B5.out d ho6 hg6)
        have e7 : w6.heap[w.heap.size + 1]? = wr.heap[w.heap.size + 1]? := (hg6.block (w.heap.size + 1) (by omega) (fun e => by have := (H62.out.lt _ e.symm).1; omega)).trans (B5.out.block (w.heap.size + 1) (by have := CI.out.hz; omega))
        have c7' : w6.cell? ⟨w.heap.size + 1, 2, none⟩ = some (.slice A6 k c6) := (World.cell?_of_block e7).trans c62
        have f7 : w6.frozen? ⟨w.heap.size + 1, 2, none⟩ = false := frozen_of_row w6 (w.heap.size + 1) 2 _ _ (e7.trans H61.out)
        refine hK.out _ _ trivial ?_
        clear hK ho6 hg6
        (try simp only [Act.put, List.setIfInBounds_toArray, List.set_cons_zero, List.set_cons_succ])
        iterate 1 (refine TE.val3 (v := ?_) ?_ ?_ ?_ ?_ ?_; rotate_left; (focus rfl); (focus (intro W hSW; (try dsimp only at hSW); (try (obtain ⟨hS1, hSW⟩ := hSW)); (try (obtain ⟨hS2, hSW⟩ := hSW)); (try (obtain ⟨hS3, hSW⟩ := hSW)); (try (obtain ⟨hS4, hSW⟩ := hSW)); (try (obtain ⟨hS5, hSW⟩ := hSW)); go_simp; (try with_reducible rfl); done)); (focus exact fun _ _ _ h => h); (focus exact hF); simp only [Act.put, List.setIfInBounds_toArray, List.set_cons_zero, List.set_cons_succ])
        refine TE.eff4 (by rfl) (fun K hK => ?_); go_simp
        refine hK.out _ _ trivial ?_
        clear hK
        refine TE.done ?_
        go_wp2_with fail
        go_roundw
        case rel => exact ⟨k + 1, hlt, by rw [Nat.succ_mul, HQ.out, HM.out], by rw [HS.out]; exact GR.out.1⟩
        case measure => simp [intOf]; omega
    · obtain rfl : k = chunkN n Z := by omega
      have hnl : ¬ chunkN n Z * Z < n := fun h => by have := (chunk_lt hZ).2 h; omega
      obtain ⟨q, hq⟩ : ∃ q, chunkN n Z * Z = q := ⟨_, rfl⟩
      rw [hq] at hnl ⊢
      have HCL := Lib.hid (show (List.range (chunkN n Z)).map (fun k => dgOf (chunkB L Z k)) = cutL L Z by unfold cutL; rw [hll])
      rw [HCL.out] at CI
      obtain ⟨A6, c6, h61, h62⟩ := CI.out.h6
      have H61 := Lib.hid h61
      have H4 := Lib.hid CI.out.h4
      have XS := Lib.hid (setRow_heap wr w.heap.size _ #[.int .i64 (Z : Int), .int .i64 (n : Int), .slice A6 (cutL L Z).length c6] _ _ H4.out)
      have OS := Lib.hid (own_keep' h62 (w' := wr.setRow w.heap.size #[.int .i64 (Z : Int), .int .i64 (n : Int), .slice A6 (cutL L Z).length c6]) (fun j hj => setRow_other _ _ _ _ (by have := (h62.lt j hj).1; omega)))
      have BS := Lib.hid (below_setRow CI.out.hb (Nat.le_refl _) #[.int .i64 (Z : Int), .int .i64 (n : Int), .slice A6 (cutL L Z).length c6])
      clear h61 h62 hq
      go_wp2_with (first
        | (refine wpList_load_row rfl 24 (.tmp 6) rfl (w.heap.size + 1) rfl 24 _ (0, 0) _ H61.out Try.underlying24 rfl HI.out ?_)
        | (refine wpList_store_row rfl 24 (.tmp 4) (.tmp 52) rfl w.heap.size #[.int .i64 (Z : Int), .int .i64 (n : Int), .slice A6 (cutL L Z).length c6] rfl rfl 24 _ H4.out HI.out rfl (by simp [Value.oneCell']) ?_)
        | fail)
      exact bodyPost_ret (results_row_tmp Try.results12 _ _ w.heap.size _ #[.int .i64 (Z : Int), .int .i64 (n : Int), .slice A6 (cutL L Z).length c6] _ _ rfl XS.out Try.underlying24 rfl HI.out) rfl
        ⟨A6, c6, by rw [HC.out]; rfl, by rw [HC.out]; exact own_down' OS.out (by omega), BS.out⟩
end Go.Proofs.Ytmaehbebpldpcaa
