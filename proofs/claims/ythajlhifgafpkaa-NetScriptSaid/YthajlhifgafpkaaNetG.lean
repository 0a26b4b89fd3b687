/-
  Nets: put, Send, Twice.
-/
import Derived.Test.YthajlhifgafpkaaNetF
import Derived.Test.YthajlhifgafpkaaTextF
namespace Go.Proofs.Ythajlhifgafpkaa
open Go.RowKit Go.Shelf
def PkV.at_ (v : PkV) (k : Nat) : PkV := ⟨⟨k, v.pk.frm, v.pk.too, v.pk.run, v.pk.bytes⟩, v.a, v.len, v.cap⟩
theorem heap_cell {W : World} {g i : Nat} {cs : Array Value} {t : TypeId} {fr : Nat × Nat} (h : W.heap[g]? = some (.cells cs t fr)) : W.cell? ⟨g, i, none⟩ = cs[i]? := cell_of_row W g i cs t fr h
theorem exec_load_row {P : Program} {ρ : Operand → Value} {o : Oper} {w : World} (ty : TypeId) (x : Operand) (ho : o.op = .load ty x)
    (g : Nat) (hx : ρ x = .pointer (some ⟨g, 0, none⟩)) (t : TypeId) (cs : Array Value) (fr : Nat × Nat) (d : TypeDesc) (hg : w.heap[g]? = some (.cells cs t fr))
    (hu : P.underlying ty = some d) (hd : (match d with | .struct _ | .array _ _ => true | _ => false) = true) (hi : (P.info? ty).map (·.size) = some cs.size) :
    (execOp ρ o).run P w = .ok (.value (.agg cs)) w := by
  unfold execOp
  simp only [ho, hx, Instr.loadAt, Instr.sureAddr, Sem.run_bind, Sem.run_pure, Result.andThen_ok, run_loadVar_row w g t ty cs fr d hg hu hd hi]
theorem NetIs.setLast {W : World} {base g mb n c : Nat} {A : Option Addr} {vs : List PkV} {s : NS} (h : NetIs W base g mb A n c vs s) (q : Nat) :
    NetIs (W.setCell ⟨g, 2, none⟩ (.int .u64 (q : Int))) base g mb A n c vs ⟨s.link, s.fl, q⟩ ∧ Below base W (W.setCell ⟨g, 2, none⟩ (.int .u64 (q : Int))) ∧ NetCh g mb A n c A n c W (W.setCell ⟨g, 2, none⟩ (.int .u64 (q : Int))) := by
  have hne : ∀ j, j ≠ g → (W.setCell ⟨g, 2, none⟩ (.int .u64 (q : Int))).heap[j]? = W.heap[j]? := fun j hj => heap_setCell_other W ⟨g, 2, none⟩ j _ hj
  obtain ⟨l, hm, hl⟩ := h.hm
  have b1 := h.b1
  refine ⟨⟨heap_setCell_same W g 2 _ _ _ h.hg, ⟨l, hm.keep (hne mb (fun e => h.gm e.symm)), hl⟩, h.hf.setG h.hg 2 _, h.hv, h.b1, h.b2⟩, ⟨rfl, rfl, rfl, by simp [World.setCell], fun j hj => hne j (by omega)⟩, ⟨by simp [World.setCell], fun j _ h1 _ _ => hne j h1, fun _ h => .inl h⟩⟩
theorem PkV.at_cells (v : PkV) (q : Nat) : v.cells.set 0 (.int .u64 (q : Int)) = (v.at_ q).cells := rfl
set_option maxRecDepth 100000 in
set_option maxHeartbeats 4000000 in
theorem put_v {base g mb n c : Nat} {A : Option Addr} {vs : List PkV} {s : NS} (pn : Nat) (pf pt : Int) (pr : Nat) (pb : List UInt8) (va : Option Addr) (vl vc : Nat) (w : World) (h : NetIs w base g mb A n c vs s) (hn : n < 4096) (hl : s.last < 1000000000) (hb : BOwn w base va vl vc pb) (hbl : vl ≤ 262144) :
    Calls Try.prog 37 #[.pointer (some ⟨g, 0, none⟩), .agg #[.int .u64 (pn : Int), .int .i64 pf, .int .i64 pt, .int .u64 (pr : Int), .slice va vl vc]] w fun e w' => ∃ A' c' vs', e = .returned (.tuple #[.int .u64 ((s.last + 1 : Nat) : Int), .int .i64 0]) ∧ NetIs w' base g mb A' (n + 1) c' vs' (s.put pf pt pr pb) ∧ Below base w w' ∧ NetCh g mb A n c A' (n + 1) c' w w' := by
  have c2w := h.c2
  have f2w := h.fr 2
  have hgl := h.lt
  have hbs : base ≤ w.heap.size := Nat.le_of_lt (Nat.lt_of_le_of_lt h.b1 h.lt)
  obtain ⟨q, hq⟩ : ∃ q, s.last + 1 = q := ⟨_, rfl⟩
  have HQ := Lib.hid hq
  have e1 : IntKind.u64.wrap ((s.last : Int) + 1) = (q : Int) := by rw [← hq]; rw [IntWalk.u64_in _ (by omega)]; omega
  have e2 : (s.last : Int) + 1 = (q : Int) := by omega
  have HI := Lib.hid (show (Try.prog.info? 34).map (·.size) = some 5 by kernel_rfl)
  obtain ⟨h1, b1, n1⟩ := h.setLast q
  have hsz : (w.setCell ⟨g, 2, none⟩ (.int .u64 (q : Int))).heap.size = w.heap.size := by simp [World.setCell]
  have R0 := heap_alloc_new (w.setCell ⟨g, 2, none⟩ (.int .u64 (q : Int))) (.cells #[.int .u64 (q : Int), .int .i64 pf, .int .i64 pt, .int .u64 (pr : Int), .slice va vl vc] 34)
  rw [hsz] at R0
  have BA := (Below.refl (w.setCell ⟨g, 2, none⟩ (.int .u64 (q : Int))).heap.size (w.setCell ⟨g, 2, none⟩ (.int .u64 (q : Int)))).alloc (Nat.le_refl _) (.cells #[.int .u64 (q : Int), .int .i64 pf, .int .i64 pt, .int .u64 (pr : Int), .slice va vl vc] 34)
  have H1 := Lib.hid (h1.below BA)
  have B1 := Lib.hid (b1.trans (BA.mono (by rw [hsz]; exact hbs)))
  have N1 := Lib.hid (n1.trans (NetCh.below BA g mb A n c))
  have V1 := Lib.hid ((hb.keep (W' := w.setCell ⟨g, 2, none⟩ (.int .u64 (q : Int))) (fun j hj => heap_setCell_other w ⟨g, 2, none⟩ j _ (h.bytes_ne hb hj).1)).below BA)
  have R1 := Lib.hid R0
  have hz1 : w.heap.size < ((w.setCell ⟨g, 2, none⟩ (.int .u64 (q : Int))).alloc (.cells #[.int .u64 (q : Int), .int .i64 pf, .int .i64 pt, .int .u64 (pr : Int), .slice va vl vc] 34)).heap.size := by simp [hsz]
  have hne0 := Lib.hid (show (Value.slice A n c).ownBlock ≠ some w.heap.size from fun e => by have := (h.hf.base_le _ e).2; omega)
  clear h hb hq h1 b1 n1 BA R0
  go_enter Try.func37, Try.ntmps37
  go_wp2_with fail
  generalize (w.setCell ⟨g, 2, none⟩ (.int .u64 (q : Int))).alloc (.cells #[.int .u64 (q : Int), .int .i64 pf, .int .i64 pt, .int .u64 (pr : Int), .slice va vl vc] 34) = w1 at *
  clear c2w f2w hsz
  refine wp_region_F 10 [(0, 1), (1, 1), (2, 1), (3, 1), (4, 2), (5, 1), (6, 0), (7, 0), (8, 1), (9, 1), (10, 4)] (fun V => V.heap[w.heap.size]? = some (.cells #[.int .u64 (q : Int), .int .i64 pf, .int .i64 pt, .int .u64 (pr : Int), .slice va vl vc] 34 (0, 0))) (fun V => V.cell? ⟨g, 1, none⟩ = some (.slice A n c)) (by kernel_rfl) (by kernel_rfl) (by kernel_rfl) (by kernel_rfl) (by kernel_rfl) (fun _ => ?_)
  simp only [outE, List.getElem?_cons_zero, List.getElem?_cons_succ, Option.getD_some]
  have H2 := Lib.hid H1.out.drew
  have B2 := Lib.hid B1.out.drew
  have N2 := Lib.hid (show NetCh g mb A n c A n c w w1.drew from ⟨N1.out.size, N1.out.blk, N1.out.own⟩)
  have V2 := Lib.hid V1.out.drew
  have hF : w1.drew.heap[w.heap.size]? = some (.cells #[.int .u64 (q : Int), .int .i64 pf, .int .i64 pt, .int .u64 (pr : Int), .slice va vl vc] 34 (0, 0)) := R1.out
  have hG : w1.drew.cell? ⟨g, 1, none⟩ = some (.slice A n c) := H2.out.c1
  have hz2 : w.heap.size < w1.drew.heap.size := hz1
  clear H1 B1 N1 V1 R1 hz1
  generalize w1.drew = W0 at *
  iterate 4 (refine TF.val1 (v := ?_) ?_ ?_ ?_ ?_ ?_ ?_; rotate_left; (focus rfl); (focus (intro W hSW; (try dsimp only at hSW); (try (obtain ⟨hS1, hSW⟩ := hSW)); (try (obtain ⟨hS2, hSW⟩ := hSW)); (try (obtain ⟨hS3, hSW⟩ := hSW)); (try (obtain ⟨hS4, hSW⟩ := hSW)); (try (obtain ⟨hS5, hSW⟩ := hSW)); (try (obtain ⟨hS6, hSW⟩ := hSW)); (try (obtain ⟨hS7, hSW⟩ := hSW)); (try (obtain ⟨hS8, hSW⟩ := hSW)); go_simp; (try with_reducible rfl); done)); (focus exact fun _ _ _ h => h); (focus exact hF); (focus exact hG); simp only [Act.put, List.setIfInBounds_toArray, List.set_cons_zero, List.set_cons_succ])
  iterate 1 (refine TF.val2 (v := ?_) ?_ ?_ ?_ ?_ ?_ ?_; rotate_left; (focus rfl); (focus (intro W hSW; (try dsimp only at hSW); (try (obtain ⟨hS1, hSW⟩ := hSW)); (try (obtain ⟨hS2, hSW⟩ := hSW)); (try (obtain ⟨hS3, hSW⟩ := hSW)); (try (obtain ⟨hS4, hSW⟩ := hSW)); (try (obtain ⟨hS5, hSW⟩ := hSW)); (try (obtain ⟨hS6, hSW⟩ := hSW)); (try (obtain ⟨hS7, hSW⟩ := hSW)); (try (obtain ⟨hS8, hSW⟩ := hSW)); go_simp; (try with_reducible rfl); done)); (focus exact fun _ _ _ h => h); (focus exact hF); (focus exact hG); simp only [Act.put, List.setIfInBounds_toArray, List.set_cons_zero, List.set_cons_succ])
  refine TF.val1 (v := .agg #[.int .u64 (q : Int), .int .i64 pf, .int .i64 pt, .int .u64 (pr : Int), .slice va vl vc]) ?_ ?_ ?_ ?_ ?_ ?_
  (focus rfl)
  (focus exact fun V hV => exec_load_row 34 (.tmp 3) rfl w.heap.size rfl 34 _ (0, 0) _ hV Try.underlying34 rfl HI.out)
  (focus exact fun _ _ _ h => h)
  (focus exact hF)
  (focus exact hG)
  simp only [Act.put, List.setIfInBounds_toArray, List.set_cons_zero, List.set_cons_succ]
  refine TF.eff0 (by rfl) (fun K hK => ?_); go_simp
  have BA := Lib.hid ((Below.refl W0.heap.size W0).alloc (Nat.le_refl _) (.cells #[.int .u64 (q : Int), .int .i64 pf, .int .i64 pt, .int .u64 (pr : Int), .slice va vl vc] 34))
  have H3 := Lib.hid (H2.out.below BA.out)
  have V3 := Lib.hid (V2.out.below BA.out)
  have B3 := Lib.hid (B2.out.trans (BA.out.mono (by omega)))
  have N3 := Lib.hid (N2.out.trans (NetCh.below BA.out g mb A n c))
  have hF3 := (BA.out.block w.heap.size hz2).trans hF
  have HNEW := Lib.hid (heap_alloc_new W0 (.cells #[.int .u64 (q : Int), .int .i64 pf, .int .i64 pt, .int .u64 (pr : Int), .slice va vl vc] 34))
  refine hK.out _ _ hF3 H3.out.c1 ?_
  clear hK hF hG
  (try simp only [Act.put, List.setIfInBounds_toArray, List.set_cons_zero, List.set_cons_succ])
  have hz3 : W0.heap.size < (W0.alloc (.cells #[.int .u64 (q : Int), .int .i64 pf, .int .i64 pt, .int .u64 (pr : Int), .slice va vl vc] 34)).heap.size := by simp
  clear BA H2 V2 B2 N2
  generalize W0.alloc (.cells #[.int .u64 (q : Int), .int .i64 pf, .int .i64 pt, .int .u64 (pr : Int), .slice va vl vc] 34) = W1 at *
  obtain ⟨i0, hi, hy0, hy1, hy2⟩ := info_parts info_pk
  refine TF.eff0 (by rfl) (fun K hK => ?_)
  refine wp_append_any W1 (.tmp 22) (.tmp 24) 44 rfl base 34 i0 _ 5 56 Try.underlying44 hi hy0 hy1 hy2 rfl (by decide) (.slice A n c) n (vs.flatMap PkV.cells) rfl H3.out.hf.row (W0.heap.size + 1) (some ⟨W0.heap.size, 0, none⟩) 1 1 #[.int .u64 (q : Int), .int .i64 pf, .int .i64 pt, .int .u64 (pr : Int), .slice va vl vc].toList rfl
    ⟨rfl, fun _ => ⟨_, rfl, Nat.lt_succ_self _, fun j u hu => by rw [add_lit2, Nat.zero_add, heap_cell HNEW.out]; simpa using hu⟩⟩ (by intro u hu; simp at hu; rcases hu with rfl | rfl | rfl | rfl | rfl <;> rfl) (by simp only [maxLen]; omega) (by omega) (by omega) ?_
  intro v' W2 hown hgr hat
  obtain ⟨A', c', rfl, hc'⟩ := own_shape hown
  have hF : W2.heap[w.heap.size]? = some (.cells #[.int .u64 (q : Int), .int .i64 pf, .int .i64 pt, .int .u64 (pr : Int), .slice va vl vc] 34 (0, 0)) := (hgr.block w.heap.size (by omega) (fun e => hne0.out e.symm)).trans hF3
  have hgW : W2.heap[g]? = W1.heap[g]? := hgr.block g H3.out.lt (fun e => (H3.out.rowm e.symm).2 rfl)
  have hG : W2.cell? ⟨g, 1, none⟩ = some (.slice A n c) := (World.cell?_of_block hgW).trans H3.out.c1
  have f2 : W2.frozen? ⟨g, 1, none⟩ = false := frozen_of_row W2 g 1 _ _ (hgW.trans H3.out.hg)
  have V4 : BOwn W2 base va vl vc pb := V3.out.keep (fun j hj => hgr.block j (V3.out.base_le j hj).2 (fun e => (H3.out.bytes_ne V3.out hj).2.2 e.symm))
  have HP := Lib.hid (show PkRow W2 base A' (n + 1) c' (vs ++ [⟨⟨q, pf, pt, pr, pb⟩, va, vl, vc⟩]) from
    ⟨by rw [List.flatMap_append]; exact hown, hc', fun u hu => by
      rcases List.mem_append.1 hu with hu | hu
      · exact H3.out.bytes_keep hgr u hu
      · rw [List.mem_singleton.1 hu]; exact ⟨V4, hbl⟩⟩)
  obtain ⟨H5, b5, n5⟩ := H3.out.newRow hgr HP.out (fun j hj => by
    rcases hat with e | e
    · exact .inl (e ▸ hj)
    · exact .inr (by have := Option.some.inj (hj.symm.trans e); omega))
  have HH5 := Lib.hid H5
  have BB5 := Lib.hid (B3.out.trans b5)
  have NN5 := Lib.hid (N3.out.trans n5)
  have R5 : (W2.setCell ⟨g, 1, none⟩ (.slice A' (n + 1) c')).heap[w.heap.size]? = some (.cells #[.int .u64 (q : Int), .int .i64 pf, .int .i64 pt, .int .u64 (pr : Int), .slice va vl vc] 34 (0, 0)) := (heap_setCell_other W2 ⟨g, 1, none⟩ w.heap.size _ (by show w.heap.size ≠ g; omega)).trans hF
  refine hK.out _ _ hF hG ?_
  clear hK hF3 H5 b5 n5 hown hat hgW HNEW V3
  (try simp only [Act.put, List.setIfInBounds_toArray, List.set_cons_zero, List.set_cons_succ])
  iterate 2 (refine TF.val1 (v := ?_) ?_ ?_ ?_ ?_ ?_ ?_; rotate_left; (focus rfl); (focus (intro W hSW; (try dsimp only at hSW); (try (obtain ⟨hS1, hSW⟩ := hSW)); (try (obtain ⟨hS2, hSW⟩ := hSW)); (try (obtain ⟨hS3, hSW⟩ := hSW)); (try (obtain ⟨hS4, hSW⟩ := hSW)); (try (obtain ⟨hS5, hSW⟩ := hSW)); (try (obtain ⟨hS6, hSW⟩ := hSW)); (try (obtain ⟨hS7, hSW⟩ := hSW)); (try (obtain ⟨hS8, hSW⟩ := hSW)); go_simp; (try with_reducible rfl); done)); (focus exact fun _ _ _ h => h); (focus exact hF); (focus exact hG); simp only [Act.put, List.setIfInBounds_toArray, List.set_cons_zero, List.set_cons_succ])
  refine TF.eff4 (by rfl) (fun K hK => ?_); go_simp
  refine hK.out _ _ R5 ?_
  clear hK
  (try simp only [Act.put, List.setIfInBounds_toArray, List.set_cons_zero, List.set_cons_succ])
  refine TF.done ?_
  have HFL := Lib.hid (show (vs ++ [(⟨⟨q, pf, pt, pr, pb⟩, va, vl, vc⟩ : PkV)]).map (·.pk) = s.fl ++ [⟨q, pf, pt, pr, pb⟩] by rw [List.map_append, H3.out.hv]; rfl)
  clear hF hG f2 V4 HP H3 B3 N3 hgr R5
  generalize W2.setCell ⟨g, 1, none⟩ (.slice A' (n + 1) c') = w5 at *
  have c5 := HH5.out.c2
  go_wp2_with fail
  have HPUT := Lib.hid (show (⟨s.link, (vs ++ [(⟨⟨q, pf, pt, pr, pb⟩, va, vl, vc⟩ : PkV)]).map (·.pk), q⟩ : NS) = s.put pf pt pr pb by rw [HFL.out]; simp only [NS.put, HQ.out])
  go_ret2
  exact ⟨rfl, A', c', ⟨_, by rw [← HPUT.out]; exact HH5.out⟩, BB5.out, NN5.out⟩
end Go.Proofs.Ythajlhifgafpkaa
