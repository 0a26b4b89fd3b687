/-
  Nets: Send.
-/
import Derived.Test.YthajlhifgafpkaaNetG
namespace Go.Proofs.Ythajlhifgafpkaa
open Go.RowKit Go.Shelf
set_option maxRecDepth 100000 in
set_option maxHeartbeats 4000000 in
theorem send_v {base g mb n c : Nat} {A : Option Addr} {vs : List PkV} {s : NS} (a b : Int) (ba : Option Addr) (bl bc B : Nat) (l : List UInt8) (w : World) (h : NetIs w base g mb A n c vs s) (ha : I64 a) (hb : I64 b) (hn : n ≤ 4096) (hl : s.last < 1000000000)
    (hr : BReads w B ba bl l) (hB : B ≤ w.heap.size) (hbl : bl ≤ 140737488355328) :
    Calls Try.prog 12 #[.pointer (some ⟨g, 0, none⟩), .int .i64 a, .int .i64 b, .slice ba bl bc] w fun e w' => ∃ A' n' c' vs', e = .returned (.tuple #[.int .u64 ((s.send a b l).1.1 : Int), .int .i64 ((s.send a b l).1.2 : Int)]) ∧ NetIs w' base g mb A' n' c' vs' (s.send a b l).2 ∧ n' ≤ n + 1 ∧ Below base w w' ∧ NetCh g mb A n c A' n' c' w w' := by
  have H := Lib.hid h
  have HRD := Lib.hid hr
  have hlen : l.length = bl := by have := hr.1; simpa using this
  have hfl := h.len
  obtain ⟨h1, h2⟩ := i64_min ha hb
  have hbs : base ≤ w.heap.size := Nat.le_of_lt (Nat.lt_of_le_of_lt h.b1 h.lt)
  clear h ha hb hr
  have KV := Lib.hid (key_v a b w)
  obtain ⟨x, hx⟩ : ∃ x, (keyI a b).1 = x := ⟨_, rfl⟩
  obtain ⟨y, hy⟩ : ∃ y, (keyI a b).2 = y := ⟨_, rfl⟩
  have HK := Lib.hid (show keyI a b = (x, y) by rw [← hx, ← hy])
  rw [hx] at h1
  rw [hy] at h2
  rw [HK.out] at KV
  clear hx hy
  obtain ⟨ok, hok⟩ : ∃ ok, okDev a b = ok := ⟨_, rfl⟩
  have HOK := Lib.hid hok
  rw [hok] at KV
  clear hok
  have HX1 := Lib.hid h1
  have HX2 := Lib.hid h2
  have HLEN := Lib.hid hlen
  have HFL := Lib.hid hfl
  clear h1 h2 hlen hfl
  go_enter Try.func12, Try.ntmps12
  go_wp2_with fail
  refine (right_v w H.out).mono ?_
  rintro e _ ⟨rfl, rfl⟩
  go_wp2_with fail
  refine KV.out.mono ?_
  rintro e w1 ⟨rfl, hb1⟩
  have H1 := Lib.hid (H.out.below hb1)
  have R1 := Lib.hid (Reads.below HRD.out (hb1.mono hB))
  have B1 := Lib.hid hb1
  have hz1 := hb1.size
  clear hb1 H KV HRD
  unfold ekL
  cases ok
  · have HR := Lib.hid (show s.send a b l = ((0, 2), s) by rw [NS.send, HOK.out]; rfl)
    have H2 := Lib.hid (H1.out.below ((Below.refl _ _).alloc (Nat.le_refl _) (.cells #[.int .i64 x, .int .i64 y] 67)))
    have B2 := Lib.hid (B1.out.alloc B1.out.size (.cells #[.int .i64 x, .int .i64 y] 67))
    go_wp2
    go_ret2
    exact ⟨A, n, c, vs, by rw [HR.out]; rfl, by rw [HR.out]; exact H2.out, Nat.le_succ n, B2.out.mono hbs, NetCh.below B2.out g mb A n c⟩
  go_wp2_with fail
  have BA := Lib.hid ((Below.refl w1.heap.size w1).alloc (Nat.le_refl _) (.cells #[.int .i64 x, .int .i64 y] 67))
  have B2 := Lib.hid (B1.out.alloc B1.out.size (.cells #[.int .i64 x, .int .i64 y] 67))
  have H2 := Lib.hid (H1.out.below BA.out)
  have R2 := Lib.hid (Reads.below R1.out (BA.out.mono (Nat.le_trans hB hz1)))
  have h0 := heap_alloc_new w1 (.cells #[.int .i64 x, .int .i64 y] 67)
  have c0 : (w1.alloc (.cells #[.int .i64 x, .int .i64 y] 67)).cell? ⟨w1.heap.size, 0, none⟩ = some (.int .i64 x) := by rw [cell_of_row _ _ 0 _ _ _ h0]; rfl
  have c1 : (w1.alloc (.cells #[.int .i64 x, .int .i64 y] 67)).cell? ⟨w1.heap.size, 1, none⟩ = some (.int .i64 y) := by rw [cell_of_row _ _ 1 _ _ _ h0]; rfl
  have hz2 : w1.heap.size < (w1.alloc (.cells #[.int .i64 x, .int .i64 y] 67)).heap.size := by simp
  have HGL := Lib.hid (show g < w1.heap.size ∧ mb < w1.heap.size ∧ ∀ j, (Value.slice A n c).ownBlock = some j → j < w1.heap.size from ⟨H1.out.lt, H1.out.mlt, fun j hj => (H1.out.hf.base_le j hj).2⟩)
  clear h0 H1 B1 BA R1
  generalize w1.alloc (.cells #[.int .i64 x, .int .i64 y] 67) = w2 at *
  have g0 := H2.out.c0
  have L2 := fun q => (H2.out.drewN q).look x y HX1.out HX2.out
  obtain ⟨up, hup⟩ : ∃ u, (s.link (x, y)).1 = u := ⟨_, rfl⟩
  obtain ⟨rn, hrn⟩ : ∃ u, (s.link (x, y)).2 = u := ⟨_, rfl⟩
  have HU := Lib.hid hup
  have HN := Lib.hid hrn
  rw [hup, hrn] at L2
  have HLK := Lib.hid (show ∀ V A n c vs s', s'.link = s.link → NetIs V base g mb A n c vs s' → (Instr.lookup 64 (.map (some mb)) (.agg #[.int .i64 x, .int .i64 y]) false).run Try.prog V = .ok (.agg #[.bool up, .int .u64 (rn : Int)]) V from fun V A n c vs s' hs hV => by
    have := hV.look x y HX1.out HX2.out
    rwa [hs, hup, hrn] at this)
  clear hup hrn
  have f0 := field_up up (rn : Int)
  cases up
  · have HR := Lib.hid (show s.send a b l = ((0, 9), s) by rw [NS.send, HOK.out, HK.out, HU.out]; rfl)
    go_quiet (fail)
    go_wp2
    go_ret2
    exact ⟨A, n, c, vs, by rw [HR.out]; rfl, by rw [HR.out]; exact H2.out.drewN nq, Nat.le_succ n, (below_drewN B2.out nq).mono hbs, NetCh.below (below_drewN B2.out nq) g mb A n c⟩
  go_quiet (fail)
  have H3 := Lib.hid (H2.out.drewN nq)
  have B3 := Lib.hid (below_drewN B2.out nq)
  have R3 := Lib.hid (Reads.below R2.out (below_drewN (Below.refl B w2) nq))
  have c0 : (w2.drewN nq).cell? ⟨w1.heap.size, 0, none⟩ = some (.int .i64 x) := c0
  have c1 : (w2.drewN nq).cell? ⟨w1.heap.size, 1, none⟩ = some (.int .i64 y) := c1
  have hz3 : w1.heap.size < (w2.drewN nq).heap.size := hz2
  clear H2 B2 R2 g0 L2 hz2
  generalize w2.drewN nq = w3 at *
  have d1 := H3.out.c1
  by_cases hbig : 4096 ≤ n ∨ 262144 < bl
  · have HR := Lib.hid (show s.send a b l = ((0, 3), s) by rw [NS.send, HOK.out, HK.out, HU.out, HFL.out, HLEN.out]; simp [hbig])
    by_cases hn4 : 4096 ≤ n
    · have q1 : decide ((n : Int) ≥ 4096) = true := by simp; omega
      have q2 : decide ((4096 : Int) ≤ (n : Int)) = true := by simp; omega
      go_wp2
      go_ret2
      exact ⟨A, n, c, vs, by rw [HR.out]; rfl, by rw [HR.out]; exact H3.out, Nat.le_succ n, B3.out.mono hbs, NetCh.below B3.out g mb A n c⟩
    · have q2 : decide ((4096 : Int) ≤ (n : Int)) = false := by simp; omega
      have q3 : decide ((262144 : Int) < (bl : Int)) = true := by simp; omega
      go_wp2
      go_ret2
      exact ⟨A, n, c, vs, by rw [HR.out]; rfl, by rw [HR.out]; exact H3.out, Nat.le_succ n, B3.out.mono hbs, NetCh.below B3.out g mb A n c⟩
  have HR := Lib.hid (show s.send a b l = ((s.last + 1, 0), s.put a b rn l) by rw [NS.send, HOK.out, HK.out, HU.out, HFL.out, HLEN.out, HN.out]; simp only [if_neg hbig]; rfl)
  have q2 : decide ((4096 : Int) ≤ (n : Int)) = false := by simp; omega
  have q3 : decide ((262144 : Int) < (bl : Int)) = false := by simp; omega
  go_wp2_with fail
  have f1 := field_run true (rn : Int)
  clear f0 d1 q2 q3
  refine wp_region_tree (SK.one 0 false <| .one 1 false <| .one 2 false <| .one 3 false <| .one 4 false <| .one 5 false <| .one 6 false <| .one 7 false <| .one 8 false <| .one 9 false <| .one 10 false <| .one 11 true <| .one 12 false <| .one 13 true <| .one 14 false <| .one 15 false <| .one 16 false <| .one 17 false .done) (fun V => V.cell? ⟨g, 0, none⟩ = some (.map (some mb)) ∧ V.cell? ⟨w1.heap.size, 0, none⟩ = some (.int .i64 x) ∧ V.cell? ⟨w1.heap.size, 1, none⟩ = some (.int .i64 y) ∧ (Instr.lookup 64 (.map (some mb)) (.agg #[.int .i64 x, .int .i64 y]) false).run Try.prog V = .ok (.agg #[.bool true, .int .u64 (rn : Int)]) V) (by kernel_rfl) (by kernel_rfl) (by kernel_rfl) (by kernel_rfl) ?_
  have H4 := Lib.hid H3.out.drew
  have B4 := Lib.hid B3.out.drew
  have R4 := Lib.hid (Reads.below R3.out (show Below B w3 w3.drew from (Below.refl B w3).drew))
  have hS : w3.drew.cell? ⟨g, 0, none⟩ = some (.map (some mb)) ∧ w3.drew.cell? ⟨w1.heap.size, 0, none⟩ = some (.int .i64 x) ∧ w3.drew.cell? ⟨w1.heap.size, 1, none⟩ = some (.int .i64 y) ∧ (Instr.lookup 64 (.map (some mb)) (.agg #[.int .i64 x, .int .i64 y]) false).run Try.prog w3.drew = .ok (.agg #[.bool true, .int .u64 (rn : Int)]) w3.drew := ⟨H4.out.c0, c0, c1, HLK.out _ _ _ _ _ _ rfl H4.out⟩
  have hz4 : w1.heap.size < w3.drew.heap.size := hz3
  have hB4 : B ≤ w3.drew.heap.size := Nat.le_trans hB B4.out.size
  clear H3 B3 R3 c0 c1 hz3
  generalize w3.drew = w4 at *
  ((first | (refine TR.val2 (v := ?_) _ (by simp only [List.getElem?_toArray, List.getElem?_cons_zero]; rfl) ?_ ?_ ?_ ?_ ?_; rotate_left; (focus rfl); (focus (intro W hSW; (try dsimp only at hSW); (try (obtain ⟨hS1, hSW⟩ := hSW)); (try (obtain ⟨hS2, hSW⟩ := hSW)); (try (obtain ⟨hS3, hSW⟩ := hSW)); (try (obtain ⟨hS4, hSW⟩ := hSW)); (try (obtain ⟨hS5, hSW⟩ := hSW)); (try (obtain ⟨hS6, hSW⟩ := hSW)); (try (obtain ⟨hS7, hSW⟩ := hSW)); (try (obtain ⟨hS8, hSW⟩ := hSW)); go_simp; (try with_reducible rfl); done)); (focus exact fun _ _ _ h => h); (focus assumption)) | (refine TR.skip _ (by simp only [List.getElem?_toArray, List.getElem?_cons_zero]; rfl) ?_ ?_ ?_ ?_; (focus rfl); (focus exact fun _ _ _ h => h); (focus assumption))); simp only [Act.put, List.setIfInBounds_toArray, List.set_cons_zero, List.set_cons_succ])
  iterate 10 ((first | (refine TR.val2 (v := ?_) _ (by simp only [List.getElem?_toArray, List.getElem?_cons_succ, List.getElem?_cons_zero]; rfl) ?_ ?_ ?_ ?_ ?_; rotate_left; (focus rfl); (focus (intro W hSW; (try dsimp only at hSW); (try (obtain ⟨hS1, hSW⟩ := hSW)); (try (obtain ⟨hS2, hSW⟩ := hSW)); (try (obtain ⟨hS3, hSW⟩ := hSW)); (try (obtain ⟨hS4, hSW⟩ := hSW)); (try (obtain ⟨hS5, hSW⟩ := hSW)); (try (obtain ⟨hS6, hSW⟩ := hSW)); (try (obtain ⟨hS7, hSW⟩ := hSW)); (try (obtain ⟨hS8, hSW⟩ := hSW)); go_simp; (try with_reducible rfl); done)); (focus exact fun _ _ _ h => h); (focus assumption)) | (refine TR.skip _ (by simp only [List.getElem?_toArray, List.getElem?_cons_succ, List.getElem?_cons_zero]; rfl) ?_ ?_ ?_ ?_; (focus rfl); (focus exact fun _ _ _ h => h); (focus assumption))); simp only [Act.put, List.setIfInBounds_toArray, List.set_cons_zero, List.set_cons_succ])
  refine TR.eff _ (by simp only [List.getElem?_toArray, List.getElem?_cons_succ, List.getElem?_cons_zero]; rfl) (by rfl) (fun K hK => ?_); go_simp
  refine (clone_any B ba bl bc l w4 R4.out hB4 hbl).mono ?_
  rintro e w5 ⟨A5, c5, rfl, ho5, hb5⟩
  have H5 := Lib.hid (H4.out.below hb5)
  have B5 := Lib.hid (B4.out.trans (hb5.mono B4.out.size))
  have V5 := Lib.hid (ho5.down (show base ≤ w4.heap.size from Nat.le_trans hbs B4.out.size))
  have hz5 : w1.heap.size < w5.heap.size := Nat.lt_of_lt_of_le hz4 hb5.size
  have e5 := Lib.hid (hb5.block w1.heap.size hz4)
  have K0 : w5.cell? ⟨w1.heap.size, 0, none⟩ = some (.int .i64 x) := (World.cell?_of_block e5.out).trans hS.2.1
  have K1 : w5.cell? ⟨w1.heap.size, 1, none⟩ = some (.int .i64 y) := (World.cell?_of_block e5.out).trans hS.2.2.1
  refine hK.out _ _ ⟨H5.out.c0, K0, K1, HLK.out _ _ _ _ _ _ rfl H5.out⟩ ?_
  clear hK hS H4 B4 R4 hB4 ho5 hb5 e5
  (try simp only [Act.put, List.setIfInBounds_toArray, List.set_cons_zero, List.set_cons_succ])
  have hS := (show w5.cell? ⟨g, 0, none⟩ = some (.map (some mb)) ∧ w5.cell? ⟨w1.heap.size, 0, none⟩ = some (.int .i64 x) ∧ w5.cell? ⟨w1.heap.size, 1, none⟩ = some (.int .i64 y) ∧ (Instr.lookup 64 (.map (some mb)) (.agg #[.int .i64 x, .int .i64 y]) false).run Try.prog w5 = .ok (.agg #[.bool true, .int .u64 (rn : Int)]) w5 from ⟨H5.out.c0, K0, K1, HLK.out _ _ _ _ _ _ rfl H5.out⟩)
  clear K0 K1
  iterate 1 ((first | (refine TR.val2 (v := ?_) _ (by simp only [List.getElem?_toArray, List.getElem?_cons_succ, List.getElem?_cons_zero]; rfl) ?_ ?_ ?_ ?_ ?_; rotate_left; (focus rfl); (focus (intro W hSW; (try dsimp only at hSW); (try (obtain ⟨hS1, hSW⟩ := hSW)); (try (obtain ⟨hS2, hSW⟩ := hSW)); (try (obtain ⟨hS3, hSW⟩ := hSW)); (try (obtain ⟨hS4, hSW⟩ := hSW)); (try (obtain ⟨hS5, hSW⟩ := hSW)); (try (obtain ⟨hS6, hSW⟩ := hSW)); (try (obtain ⟨hS7, hSW⟩ := hSW)); (try (obtain ⟨hS8, hSW⟩ := hSW)); go_simp; (try with_reducible rfl); done)); (focus exact fun _ _ _ h => h); (focus assumption)) | (refine TR.skip _ (by simp only [List.getElem?_toArray, List.getElem?_cons_succ, List.getElem?_cons_zero]; rfl) ?_ ?_ ?_ ?_; (focus rfl); (focus exact fun _ _ _ h => h); (focus assumption))); simp only [Act.put, List.setIfInBounds_toArray, List.set_cons_zero, List.set_cons_succ])
  refine TR.eff _ (by simp only [List.getElem?_toArray, List.getElem?_cons_succ, List.getElem?_cons_zero]; rfl) (by rfl) (fun K hK => ?_); go_simp
  refine (put_v 0 a b rn l A5 bl c5 w5 H5.out (by omega) hl V5.out (by omega)).mono ?_
  rintro e w6 ⟨A6, c6, v6, rfl, h6, b6, n6⟩
  have e6 := Lib.hid (n6.blk w1.heap.size hz5 (by have := HGL.out.1; omega) (by have := HGL.out.2.1; omega) (fun e => by have := HGL.out.2.2 _ e; omega))
  have K0 : w6.cell? ⟨w1.heap.size, 0, none⟩ = some (.int .i64 x) := (World.cell?_of_block e6.out).trans hS.2.1
  have K1 : w6.cell? ⟨w1.heap.size, 1, none⟩ = some (.int .i64 y) := (World.cell?_of_block e6.out).trans hS.2.2.1
  have H6 := Lib.hid h6
  have B6 := Lib.hid ((B5.out.mono hbs).trans b6)
  have N6 := Lib.hid ((NetCh.below B5.out g mb A n c).trans n6)
  have hS6 := (show w6.cell? ⟨g, 0, none⟩ = some (.map (some mb)) ∧ w6.cell? ⟨w1.heap.size, 0, none⟩ = some (.int .i64 x) ∧ w6.cell? ⟨w1.heap.size, 1, none⟩ = some (.int .i64 y) ∧ (Instr.lookup 64 (.map (some mb)) (.agg #[.int .i64 x, .int .i64 y]) false).run Try.prog w6 = .ok (.agg #[.bool true, .int .u64 (rn : Int)]) w6 from ⟨h6.c0, K0, K1, HLK.out _ _ _ _ _ (s.put a b rn l) rfl h6⟩)
  refine hK.out _ _ hS6 ?_
  clear hK hS e6 h6 b6 n6 K0 K1
  (try simp only [Act.put, List.setIfInBounds_toArray, List.set_cons_zero, List.set_cons_succ])
  have hS := hS6
  clear hS6
  iterate 4 ((first | (refine TR.val2 (v := ?_) _ (by simp only [List.getElem?_toArray, List.getElem?_cons_succ, List.getElem?_cons_zero]; rfl) ?_ ?_ ?_ ?_ ?_; rotate_left; (focus rfl); (focus (intro W hSW; (try dsimp only at hSW); (try (obtain ⟨hS1, hSW⟩ := hSW)); (try (obtain ⟨hS2, hSW⟩ := hSW)); (try (obtain ⟨hS3, hSW⟩ := hSW)); (try (obtain ⟨hS4, hSW⟩ := hSW)); (try (obtain ⟨hS5, hSW⟩ := hSW)); (try (obtain ⟨hS6, hSW⟩ := hSW)); (try (obtain ⟨hS7, hSW⟩ := hSW)); (try (obtain ⟨hS8, hSW⟩ := hSW)); go_simp; (try with_reducible rfl); done)); (focus exact fun _ _ _ h => h); (focus assumption)) | (refine TR.skip _ (by simp only [List.getElem?_toArray, List.getElem?_cons_succ, List.getElem?_cons_zero]; rfl) ?_ ?_ ?_ ?_; (focus rfl); (focus exact fun _ _ _ h => h); (focus assumption))); simp only [Act.put, List.setIfInBounds_toArray, List.set_cons_zero, List.set_cons_succ])
  refine TR.done ?_
  go_wp2_with fail
  go_ret2
  trace_state
  exact ⟨A6, n + 1, c6, v6, by rw [HR.out]; rfl, by rw [HR.out]; exact H6.out, Nat.le_refl _, B6.out, N6.out⟩
end Go.Proofs.Ythajlhifgafpkaa
