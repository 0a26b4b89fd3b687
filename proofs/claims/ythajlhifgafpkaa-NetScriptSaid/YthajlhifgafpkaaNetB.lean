/-
  Nets: right, Is, Up.
-/
import Derived.Test.YthajlhifgafpkaaNetA
import Derived.Test.YthajlhifgafpkaaTextT
import Derived.IntWalk
namespace Go.Proofs.Ythajlhifgafpkaa
open Go.RowKit
theorem cell_new (w : World) (cs : Array Value) (t : TypeId) (j : Nat) : (w.alloc (.cells cs t)).cell? ⟨w.heap.size, j, none⟩ = cs[j]? := by
  rw [cell_of_row _ _ j _ t (0, 0) (heap_alloc_new w _)]
theorem cell_old (w : World) (o : Obj) (b j : Nat) (h : b < w.heap.size) : (w.alloc o).cell? ⟨b, j, none⟩ = w.cell? ⟨b, j, none⟩ := World.cell?_alloc_lt w o ⟨b, j, none⟩ h
set_option maxHeartbeats 1000000 in
theorem right_nil (w : World) : Calls Try.prog 35 #[.pointer none] w fun e w' => e = .returned (.bool false) ∧ w = w' := by
  go_enter Try.func35, Try.ntmps35
  go_wp2
  go_ret
  exact ⟨rfl, rfl⟩
theorem neq_map (mb : Nat) (w : World) : (binOp .neq 64 (.map (some mb)) (.map none)).run Try.prog w = .ok (.bool true) w := by
  exact run_neq_map_nil w _ _ _ (some mb) Try.underlying64
set_option maxHeartbeats 1000000 in
theorem right_v {base g mb n c : Nat} {A : Option Addr} {vs : List PkV} {s : NS} (w : World) (h : NetIs w base g mb A n c vs s) : Calls Try.prog 35 #[.pointer (some ⟨g, 0, none⟩)] w fun e w' => e = .returned (.bool true) ∧ w = w' := by
  have c0 := h.c0
  have hn : ∀ w, (binOp .neq 64 (.map (some mb)) (.map none)).run Try.prog w = .ok (.bool true) w := neq_map mb
  clear h
  go_enter Try.func35, Try.ntmps35
  go_wp2
  go_ret
  exact ⟨rfl, rfl⟩
theorem i64_min {a b : Int} (ha : I64 a) (hb : I64 b) : I64 (keyI a b).1 ∧ I64 (keyI a b).2 := by
  unfold keyI
  simp only []
  constructor
  · rcases Int.le_total a b with h | h
    · rwa [Int.min_eq_left h]
    · rwa [Int.min_eq_right h]
  · rcases Int.le_total a b with h | h
    · rwa [Int.max_eq_right h]
    · rwa [Int.max_eq_left h]
theorem field_up (b : Bool) (r : Int) (w : World) : (Instr.field 71 (.agg #[.bool b, .int .u64 r]) 0).run Try.prog w = .ok (.bool b) w := by
  simp [Instr.field, run_underlying Try.underlying71, part, isAgg, run_underlying Try.underlying4, asAgg, Result.andThen]
theorem field_run (b : Bool) (r : Int) (w : World) : (Instr.field 71 (.agg #[.bool b, .int .u64 r]) 1).run Try.prog w = .ok (.int .u64 r) w := by
  simp [Instr.field, run_underlying Try.underlying71, part, isAgg, run_underlying Try.underlying28, asAgg, Result.andThen]
set_option maxHeartbeats 2000000 in
theorem is_v {base g mb n c : Nat} {A : Option Addr} {vs : List PkV} {s : NS} (a b : Int) (w : World) (h : NetIs w base g mb A n c vs s) (ha : I64 a) (hb : I64 b) :
    Calls Try.prog 19 #[.pointer (some ⟨g, 0, none⟩), .int .i64 a, .int .i64 b] w fun e w' => e = .returned (.tuple #[.bool (s.is a b).1, .int .u64 ((s.is a b).2 : Int)]) ∧ Below w.heap.size w w' := by
  have H := Lib.hid h
  obtain ⟨h1, h2⟩ := i64_min ha hb
  clear h ha hb
  have KV := Lib.hid (key_v a b w)
  obtain ⟨x, hx⟩ : ∃ x, (keyI a b).1 = x := ⟨_, rfl⟩
  obtain ⟨y, hy⟩ : ∃ y, (keyI a b).2 = y := ⟨_, rfl⟩
  have HK := Lib.hid (show keyI a b = (x, y) by rw [← hx, ← hy])
  rw [hx] at h1
  rw [hy] at h2
  rw [HK.out] at KV
  clear hx hy
  obtain ⟨ok, hok⟩ : ∃ ok, okDev a b = ok := ⟨_, rfl⟩
  have HOK := Lib.hid hok
  rw [hok] at KV
  clear hok
  have HX1 := Lib.hid h1
  have HX2 := Lib.hid h2
  clear h1 h2
  go_enter Try.func19, Try.ntmps19
  go_wp2_with fail
  refine KV.out.mono ?_
  rintro e w1 ⟨rfl, hb1⟩
  have H1 := Lib.hid (H.out.below hb1)
  have B1 := Lib.hid hb1
  clear hb1 H KV
  unfold ekL
  go_wp2_with fail
  have B2 := Lib.hid (B1.out.alloc B1.out.size (.cells #[.int .i64 x, .int .i64 y] 67))
  have H2 := Lib.hid (H1.out.below ((Below.refl _ _).alloc (Nat.le_refl _) (.cells #[.int .i64 x, .int .i64 y] 67)))
  have h0 := heap_alloc_new w1 (.cells #[.int .i64 x, .int .i64 y] 67)
  have c0 : (w1.alloc (.cells #[.int .i64 x, .int .i64 y] 67)).cell? ⟨w1.heap.size, 0, none⟩ = some (.int .i64 x) := by rw [cell_of_row _ _ 0 _ _ _ h0]; rfl
  have c1 : (w1.alloc (.cells #[.int .i64 x, .int .i64 y] 67)).cell? ⟨w1.heap.size, 1, none⟩ = some (.int .i64 y) := by rw [cell_of_row _ _ 1 _ _ _ h0]; rfl
  clear h0 H1 B1
  generalize w1.alloc (.cells #[.int .i64 x, .int .i64 y] 67) = w2 at *
  refine (right_v w2 H2.out).mono ?_
  rintro e _ ⟨rfl, rfl⟩
  cases ok
  · have HR := Lib.hid (show s.is a b = (false, 0) by rw [NS.is, HOK.out]; rfl)
    go_wp2
    go_ret2
    exact ⟨by rw [HR.out]; rfl, B2.out⟩
  · have HR := Lib.hid (show s.is a b = s.link (x, y) by rw [NS.is, HOK.out, HK.out]; rfl)
    have g0 := H2.out.c0
    have L1 := H2.out.look x y HX1.out HX2.out
    have L2 := fun q => (H2.out.drewN q).look x y HX1.out HX2.out
    obtain ⟨up, hup⟩ : ∃ u, (s.link (x, y)).1 = u := ⟨_, rfl⟩
    obtain ⟨rn, hrn⟩ : ∃ u, (s.link (x, y)).2 = u := ⟨_, rfl⟩
    have HU := Lib.hid hup
    have HN := Lib.hid hrn
    rw [hup, hrn] at L1 L2
    clear hup hrn
    have f0 := field_up up (rn : Int)
    have f1 := field_run up (rn : Int)
    go_wp2
    go_quiet (fail)
    go_wp2
    go_ret2
    exact ⟨by rw [HR.out, HU.out, HN.out]; rfl, below_drewN B2.out nq⟩
set_option maxRecDepth 100000 in
set_option maxHeartbeats 4000000 in
theorem up_v {base g mb n c : Nat} {A : Option Addr} {vs : List PkV} {s : NS} (a b : Int) (w : World) (h : NetIs w base g mb A n c vs s) (ha : I64 a) (hb : I64 b) (N : Nat) (hN : s.small N) (hN2 : N < 1000000) :
    Calls Try.prog 11 #[.pointer (some ⟨g, 0, none⟩), .int .i64 a, .int .i64 b] w fun e w' => e = .returned (.int .i64 ((s.up a b).1 : Int)) ∧ NetIs w' base g mb A n c vs (s.up a b).2 ∧ Below base w w' ∧ NetCh g mb A n c A n c w w' := by
  have H := Lib.hid h
  obtain ⟨h1, h2⟩ := i64_min ha hb
  have hbs : base ≤ w.heap.size := Nat.le_of_lt (Nat.lt_of_le_of_lt h.b1 h.lt)
  have hrn := hN.run (keyI a b)
  clear h ha hb hN
  have KV := Lib.hid (key_v a b w)
  obtain ⟨x, hx⟩ : ∃ x, (keyI a b).1 = x := ⟨_, rfl⟩
  obtain ⟨y, hy⟩ : ∃ y, (keyI a b).2 = y := ⟨_, rfl⟩
  have HK := Lib.hid (show keyI a b = (x, y) by rw [← hx, ← hy])
  rw [hx] at h1
  rw [hy] at h2
  rw [HK.out] at KV hrn
  clear hx hy
  obtain ⟨ok, hok⟩ : ∃ ok, okDev a b = ok := ⟨_, rfl⟩
  have HOK := Lib.hid hok
  rw [hok] at KV
  clear hok
  have HX1 := Lib.hid h1
  have HX2 := Lib.hid h2
  clear h1 h2
  go_enter Try.func11, Try.ntmps11
  go_wp2_with fail
  refine (right_v w H.out).mono ?_
  rintro e _ ⟨rfl, rfl⟩
  go_wp2_with fail
  refine KV.out.mono ?_
  rintro e w1 ⟨rfl, hb1⟩
  have H1 := Lib.hid (H.out.below hb1)
  have B1 := Lib.hid hb1
  have hz1 := hb1.size
  clear hb1 H KV
  unfold ekL
  go_wp2_with fail
  have B2 := Lib.hid (B1.out.alloc B1.out.size (.cells #[.int .i64 x, .int .i64 y] 67))
  have H2 := Lib.hid (H1.out.below ((Below.refl _ _).alloc (Nat.le_refl _) (.cells #[.int .i64 x, .int .i64 y] 67)))
  have h0 := heap_alloc_new w1 (.cells #[.int .i64 x, .int .i64 y] 67)
  have c0 : (w1.alloc (.cells #[.int .i64 x, .int .i64 y] 67)).cell? ⟨w1.heap.size, 0, none⟩ = some (.int .i64 x) := by rw [cell_of_row _ _ 0 _ _ _ h0]; rfl
  have c1 : (w1.alloc (.cells #[.int .i64 x, .int .i64 y] 67)).cell? ⟨w1.heap.size, 1, none⟩ = some (.int .i64 y) := by rw [cell_of_row _ _ 1 _ _ _ h0]; rfl
  have hz2 : w1.heap.size < (w1.alloc (.cells #[.int .i64 x, .int .i64 y] 67)).heap.size := by simp
  clear h0 H1 B1
  generalize w1.alloc (.cells #[.int .i64 x, .int .i64 y] 67) = w2 at *
  obtain ⟨up, hup⟩ : ∃ u, (s.link (x, y)).1 = u := ⟨_, rfl⟩
  obtain ⟨rn, hrn2⟩ : ∃ u, (s.link (x, y)).2 = u := ⟨_, rfl⟩
  have HU := Lib.hid hup
  have HN := Lib.hid hrn2
  rw [hrn2] at hrn
  have HLK : Hid (∀ V, NetIs V base g mb A n c vs s → (Instr.lookup 64 (.map (some mb)) (.agg #[.int .i64 x, .int .i64 y]) false).run Try.prog V = .ok (.agg #[.bool up, .int .u64 (rn : Int)]) V) := Lib.hid fun V hV => by
    have := hV.look x y HX1.out HX2.out
    rwa [hup, hrn2] at this
  clear hup hrn2
  refine wp_region_tree (SK.one 0 false <| .one 1 false <| .one 2 false <| .one 3 false <| .one 4 false <| .one 5 false <| .one 6 true <| .one 7 true .done) (fun V => V.cell? ⟨g, 0, none⟩ = some (.map (some mb)) ∧ V.cell? ⟨w1.heap.size, 0, none⟩ = some (.int .i64 x) ∧ V.cell? ⟨w1.heap.size, 1, none⟩ = some (.int .i64 y) ∧ (Instr.lookup 64 (.map (some mb)) (.agg #[.int .i64 x, .int .i64 y]) false).run Try.prog V = .ok (.agg #[.bool up, .int .u64 (rn : Int)]) V) (by kernel_rfl) (by kernel_rfl) (by kernel_rfl) (by kernel_rfl) ?_
  have H3 := Lib.hid H2.out.drew
  have B3 := Lib.hid B2.out.drew
  have hS : w2.drew.cell? ⟨g, 0, none⟩ = some (.map (some mb)) ∧ w2.drew.cell? ⟨w1.heap.size, 0, none⟩ = some (.int .i64 x) ∧ w2.drew.cell? ⟨w1.heap.size, 1, none⟩ = some (.int .i64 y) ∧ (Instr.lookup 64 (.map (some mb)) (.agg #[.int .i64 x, .int .i64 y]) false).run Try.prog w2.drew = .ok (.agg #[.bool up, .int .u64 (rn : Int)]) w2.drew := ⟨H3.out.c0, c0, c1, HLK.out _ H3.out⟩
  have hz2 : w1.heap.size < w2.drew.heap.size := hz2
  clear H2 B2 c0 c1
  generalize w2.drew = V0 at *
  ((first | (refine TR.val2 (v := ?_) _ (by simp only [List.getElem?_toArray, List.getElem?_cons_zero]; rfl) ?_ ?_ ?_ ?_ ?_; rotate_left; (focus rfl); (focus (intro W hSW; (try dsimp only at hSW); (try (obtain ⟨hS1, hSW⟩ := hSW)); (try (obtain ⟨hS2, hSW⟩ := hSW)); (try (obtain ⟨hS3, hSW⟩ := hSW)); (try (obtain ⟨hS4, hSW⟩ := hSW)); (try (obtain ⟨hS5, hSW⟩ := hSW)); (try (obtain ⟨hS6, hSW⟩ := hSW)); (try (obtain ⟨hS7, hSW⟩ := hSW)); (try (obtain ⟨hS8, hSW⟩ := hSW)); go_simp; (try with_reducible rfl); done)); (focus exact fun _ _ _ h => h); (focus assumption)) | (refine TR.skip _ (by simp only [List.getElem?_toArray, List.getElem?_cons_zero]; rfl) ?_ ?_ ?_ ?_; (focus rfl); (focus exact fun _ _ _ h => h); (focus assumption))); simp only [Act.put, List.setIfInBounds_toArray, List.set_cons_zero, List.set_cons_succ])
  iterate 5 ((first | (refine TR.val2 (v := ?_) _ (by simp only [List.getElem?_toArray, List.getElem?_cons_succ, List.getElem?_cons_zero]; rfl) ?_ ?_ ?_ ?_ ?_; rotate_left; (focus rfl); (focus (intro W hSW; (try dsimp only at hSW); (try (obtain ⟨hS1, hSW⟩ := hSW)); (try (obtain ⟨hS2, hSW⟩ := hSW)); (try (obtain ⟨hS3, hSW⟩ := hSW)); (try (obtain ⟨hS4, hSW⟩ := hSW)); (try (obtain ⟨hS5, hSW⟩ := hSW)); (try (obtain ⟨hS6, hSW⟩ := hSW)); (try (obtain ⟨hS7, hSW⟩ := hSW)); (try (obtain ⟨hS8, hSW⟩ := hSW)); go_simp; (try with_reducible rfl); done)); (focus exact fun _ _ _ h => h); (focus assumption)) | (refine TR.skip _ (by simp only [List.getElem?_toArray, List.getElem?_cons_succ, List.getElem?_cons_zero]; rfl) ?_ ?_ ?_ ?_; (focus rfl); (focus exact fun _ _ _ h => h); (focus assumption))); simp only [Act.put, List.setIfInBounds_toArray, List.set_cons_zero, List.set_cons_succ])
  refine TR.eff _ (by simp only [List.getElem?_toArray, List.getElem?_cons_succ, List.getElem?_cons_zero]; rfl) (by rfl) (fun K hK => ?_); go_simp
  have H4 := Lib.hid (H3.out.below ((Below.refl _ V0).alloc (Nat.le_refl _) (.cells #[.bool false, .int .u64 0] 71)))
  have hS2 : (V0.alloc (.cells #[.bool false, .int .u64 0] 71)).cell? ⟨g, 0, none⟩ = some (.map (some mb)) ∧ (V0.alloc (.cells #[.bool false, .int .u64 0] 71)).cell? ⟨w1.heap.size, 0, none⟩ = some (.int .i64 x) ∧ (V0.alloc (.cells #[.bool false, .int .u64 0] 71)).cell? ⟨w1.heap.size, 1, none⟩ = some (.int .i64 y) ∧ (Instr.lookup 64 (.map (some mb)) (.agg #[.int .i64 x, .int .i64 y]) false).run Try.prog (V0.alloc (.cells #[.bool false, .int .u64 0] 71)) = .ok (.agg #[.bool up, .int .u64 (rn : Int)]) (V0.alloc (.cells #[.bool false, .int .u64 0] 71)) := ⟨H4.out.c0, (cell_old _ _ _ _ hz2).trans hS.2.1, (cell_old _ _ _ _ hz2).trans hS.2.2.1, HLK.out _ H4.out⟩
  refine hK.out _ _ hS2 ?_
  clear hK hS
  (try simp only [Act.put, List.setIfInBounds_toArray, List.set_cons_zero, List.set_cons_succ])
  refine TR.eff _ (by simp only [List.getElem?_toArray, List.getElem?_cons_succ, List.getElem?_cons_zero]; rfl) (by rfl) (fun K hK => ?_)
  have h0 := heap_alloc_new V0 (.cells #[.bool false, .int .u64 0] 71)
  refine wp_store_row 71 (.tmp 9) (.tmp 24) rfl V0.heap.size #[.bool up, .int .u64 (rn : Int)] rfl rfl 71 _ h0 (by kernel_rfl) rfl (by simp [Value.oneCell']) ?_
  have hW := setRow_heap _ V0.heap.size _ #[.bool up, .int .u64 (rn : Int)] _ _ h0
  have B4 := Lib.hid (below_setRow (B3.out.alloc B3.out.size (.cells #[.bool false, .int .u64 0] 71)) B3.out.size #[.bool up, .int .u64 (rn : Int)])
  have H5 := Lib.hid (H3.out.below (below_setRow ((Below.refl _ V0).alloc (Nat.le_refl _) (.cells #[.bool false, .int .u64 0] 71)) (Nat.le_refl _) #[.bool up, .int .u64 (rn : Int)]))
  have c0 : ((V0.alloc (.cells #[.bool false, .int .u64 0] 71)).setRow V0.heap.size #[.bool up, .int .u64 (rn : Int)]).cell? ⟨w1.heap.size, 0, none⟩ = some (.int .i64 x) := (World.cell?_of_block (setRow_other _ _ _ _ (by show w1.heap.size ≠ V0.heap.size; omega))).trans hS2.2.1
  have c1 : ((V0.alloc (.cells #[.bool false, .int .u64 0] 71)).setRow V0.heap.size #[.bool up, .int .u64 (rn : Int)]).cell? ⟨w1.heap.size, 1, none⟩ = some (.int .i64 y) := (World.cell?_of_block (setRow_other _ _ _ _ (by show w1.heap.size ≠ V0.heap.size; omega))).trans hS2.2.2.1
  have d0 : ((V0.alloc (.cells #[.bool false, .int .u64 0] 71)).setRow V0.heap.size #[.bool up, .int .u64 (rn : Int)]).cell? ⟨V0.heap.size, 0, none⟩ = some (.bool up) := by rw [cell_of_row _ _ 0 _ _ _ hW]; rfl
  have d1 : ((V0.alloc (.cells #[.bool false, .int .u64 0] 71)).setRow V0.heap.size #[.bool up, .int .u64 (rn : Int)]).cell? ⟨V0.heap.size, 1, none⟩ = some (.int .u64 (rn : Int)) := by rw [cell_of_row _ _ 1 _ _ _ hW]; rfl
  clear h0 hW hS2 H4
  generalize (V0.alloc (.cells #[.bool false, .int .u64 0] 71)).setRow V0.heap.size #[.bool up, .int .u64 (rn : Int)] = w3 at *
  refine hK.out _ _ ⟨H5.out.c0, c0, c1, HLK.out _ H5.out⟩ ?_
  clear hK
  refine TR.done ?_
  have b5 := NetCh.below B4.out g mb A n c
  have NN := Lib.hid b5
  clear b5
  cases ok
  · have HR := Lib.hid (show s.up a b = (2, s) by rw [NS.up, HOK.out]; rfl)
    go_wp2
    go_ret
    exact ⟨by rw [HR.out]; rfl, by rw [HR.out]; exact H5.out, B4.out.mono hbs, NN.out⟩
  cases up
  · have HR := Lib.hid (show s.up a b = (0, s.set (x, y) (true, rn + 1)) by rw [NS.up, HOK.out, HK.out, HU.out, HN.out]; rfl)
    have g0 := H5.out.c0
    obtain ⟨W', hr, H6, b6, n6, _⟩ := H5.out.drew.store x y HX1.out HX2.out (true, rn + 1)
    simp only [] at hr
    rw [show ((rn + 1 : Nat) : Int) = (rn : Int) + 1 by omega] at hr
    have HH := Lib.hid H6
    have BB := Lib.hid ((B4.out.mono hbs).trans ((Below.refl base w3).drew.trans b6))
    have N6 := Lib.hid ((NetCh.below (B4.out.drew) g mb A n c).trans n6)
    clear H6 b6 n6
    go_wp2
    have e1 : IntKind.u64.wrap ((rn : Int) + 1) = (rn : Int) + 1 := IntWalk.u64_in _ (by omega)
    go_still_tail 9, (by kernel_rfl)
    have hr : (Instr.mapUpdate 64 (.map (some mb)) (.agg #[.int .i64 x, .int .i64 y]) (.agg #[.bool true, .int .u64 ((rn : Int) + 1)])).run Try.prog { heap := w3.heap, tape := w3.tape, drawn := w3.drawn + 1, os := w3.os, output := w3.output } = .ok () W' := hr
    go_wp2
    go_ret
    exact ⟨by rw [HR.out]; rfl, by rw [HR.out]; exact HH.out, BB.out, N6.out⟩
  · have HR := Lib.hid (show s.up a b = (7, s) by rw [NS.up, HOK.out, HK.out, HU.out]; rfl)
    go_wp2
    go_ret
    exact ⟨by rw [HR.out]; rfl, by rw [HR.out]; exact H5.out, B4.out.mono hbs, NN.out⟩
end Go.Proofs.Ythajlhifgafpkaa
