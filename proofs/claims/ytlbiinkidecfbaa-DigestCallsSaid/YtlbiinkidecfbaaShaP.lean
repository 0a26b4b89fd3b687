/-
  Digests: Block.
-/
import Derived.Test.YtlbiinkidecfbaaShaO
namespace Go.Proofs.Ytlbiinkidecfbaa
open Go.RowKit
theorem exec_load_row {P : Program} {ρ : Operand → Value} {o : Oper} {w : World} (ty : TypeId) (x : Operand) (ho : o.op = .load ty x)
    (g : Nat) (hx : ρ x = .pointer (some ⟨g, 0, none⟩)) (t : TypeId) (cs : Array Value) (fr : Nat × Nat) (d : TypeDesc) (hg : w.heap[g]? = some (.cells cs t fr))
    (hu : P.underlying ty = some d) (hd : (match d with | .struct _ | .array _ _ => true | _ => false) = true) (hi : (P.info? ty).map (·.size) = some cs.size) :
    (execOp ρ o).run P w = .ok (.value (.agg cs)) w := by
  unfold execOp
  simp only [ho, hx, Instr.loadAt, Instr.sureAddr, Sem.run_bind, Sem.run_pure, Result.andThen_ok, run_loadVar_row w g t ty cs fr d hg hu hd hi]
/-- What Block holds. -/
structure Bl17 (w : World) (s : St) (b : List Nat) (W : World) : Prop where
  hs : Arr .u32 36 W w.heap.size s.list
  hb : Arr .u8 42 W (w.heap.size + 1) b
  hr : Arr .u32 36 W (w.heap.size + 1 + 1) (List.replicate 8 0)
  bel : Below w.heap.size w W
theorem Bl17.below {w : World} {s : St} {b : List Nat} {W W' : World} (h : Bl17 w s b W) (hb : Below W.heap.size W W') : Bl17 w s b W' :=
  ⟨h.hs.below hb, h.hb.below hb, h.hr.below hb, h.bel.trans (hb.mono (by have := h.hs.lt; omega))⟩
theorem Bl17.start (w : World) (s : St) (b : List Nat) : Bl17 w s b (((w.alloc (.cells #[.int .u32 (s.a : Int), .int .u32 (s.b : Int), .int .u32 (s.c : Int), .int .u32 (s.d : Int), .int .u32 (s.e : Int), .int .u32 (s.f : Int), .int .u32 (s.g : Int), .int .u32 (s.h : Int)] 36)).alloc (.cells (b.map fun x : Nat => Value.int .u8 (x : Int)).toArray 42)).alloc (.cells #[Value.int .u32 0, Value.int .u32 0, Value.int .u32 0, Value.int .u32 0, Value.int .u32 0, Value.int .u32 0, Value.int .u32 0, Value.int .u32 0] 36)) := by
  obtain ⟨w1, hw1⟩ : ∃ w1, w.alloc (.cells #[.int .u32 (s.a : Int), .int .u32 (s.b : Int), .int .u32 (s.c : Int), .int .u32 (s.d : Int), .int .u32 (s.e : Int), .int .u32 (s.f : Int), .int .u32 (s.g : Int), .int .u32 (s.h : Int)] 36) = w1 := ⟨_, rfl⟩
  have z1 : w1.heap.size = w.heap.size + 1 := by rw [← hw1]; simp
  have a1 : Arr .u32 36 w1 w.heap.size s.list := by rw [← hw1]; exact Arr.new w _ _ rfl
  have b1 : Below w.heap.size w w1 := by rw [← hw1]; exact (Below.refl _ _).alloc (Nat.le_refl _) _
  rw [hw1]
  clear hw1
  obtain ⟨w2, hw2⟩ : ∃ w2, w1.alloc (.cells (b.map fun x : Nat => Value.int .u8 (x : Int)).toArray 42) = w2 := ⟨_, rfl⟩
  have z2 : w2.heap.size = w.heap.size + 1 + 1 := by rw [← hw2]; simp [z1]
  have a2 : Arr .u8 42 w2 (w.heap.size + 1) b := by rw [← hw2, ← z1]; exact Arr.new w1 _ _ rfl
  have a1 : Arr .u32 36 w2 w.heap.size s.list := by rw [← hw2]; exact a1.alloc _
  have b1 : Below w.heap.size w w2 := by rw [← hw2]; exact b1.alloc (by omega) _
  rw [hw2]
  clear hw2
  refine ⟨a1.alloc _, a2.alloc _, ?_, b1.alloc (by omega) _⟩
  rw [← z2]
  exact Arr.new w2 _ _ rfl
set_option maxRecDepth 100000 in
set_option maxHeartbeats 4000000 in
theorem block17_v (s : St) (b : List Nat) (w : World) (hs : s.fit) (hl : b.length = 64) (hb : ∀ x ∈ b, x < 256) :
    Calls Try.prog 17 #[.agg #[.int .u32 (s.a : Int), .int .u32 (s.b : Int), .int .u32 (s.c : Int), .int .u32 (s.d : Int), .int .u32 (s.e : Int), .int .u32 (s.f : Int), .int .u32 (s.g : Int), .int .u32 (s.h : Int)], .agg (b.map fun x : Nat => Value.int .u8 (x : Int)).toArray] w fun e w' => e = .returned (.agg ((blockP K64 s b).list.map fun x : Nat => Value.int .u32 (x : Int)).toArray) ∧ Below w.heap.size w w' := by
  have HS := Lib.hid hs
  have HL := Lib.hid hl
  have HB := Lib.hid hb
  clear hs hl hb
  have HI := Lib.hid (show (Try.prog.info? 38).map (·.size) = some 64 by kernel_rfl)
  have HI8 := Lib.hid (show (Try.prog.info? 36).map (·.size) = some 8 by kernel_rfl)
  have HK := Lib.hid (show (K64.map fun x : Nat => Value.int .u32 (x : Int)).toArray.size = 64 by simp [len_K64])
  have I0 := Lib.hid (Bl17.start w s b)
  go_enter Try.func17, Try.ntmps17
  go_wp2_with fail
  refine (const_v _).mono ?_
  rintro e w1 ⟨rfl, hb1⟩
  have I1 := Lib.hid (I0.out.below hb1)
  clear hb1 I0
  have e64 := Lib.hid (heap_alloc_new w1 (.cells #[Value.int .u32 0, Value.int .u32 0, Value.int .u32 0, Value.int .u32 0, Value.int .u32 0, Value.int .u32 0, Value.int .u32 0, Value.int .u32 0, Value.int .u32 0, Value.int .u32 0, Value.int .u32 0, Value.int .u32 0, Value.int .u32 0, Value.int .u32 0, Value.int .u32 0, Value.int .u32 0, Value.int .u32 0, Value.int .u32 0, Value.int .u32 0, Value.int .u32 0, Value.int .u32 0, Value.int .u32 0, Value.int .u32 0, Value.int .u32 0, Value.int .u32 0, Value.int .u32 0, Value.int .u32 0, Value.int .u32 0, Value.int .u32 0, Value.int .u32 0, Value.int .u32 0, Value.int .u32 0, Value.int .u32 0, Value.int .u32 0, Value.int .u32 0, Value.int .u32 0, Value.int .u32 0, Value.int .u32 0, Value.int .u32 0, Value.int .u32 0, Value.int .u32 0, Value.int .u32 0, Value.int .u32 0, Value.int .u32 0, Value.int .u32 0, Value.int .u32 0, Value.int .u32 0, Value.int .u32 0, Value.int .u32 0, Value.int .u32 0, Value.int .u32 0, Value.int .u32 0, Value.int .u32 0, Value.int .u32 0, Value.int .u32 0, Value.int .u32 0, Value.int .u32 0, Value.int .u32 0, Value.int .u32 0, Value.int .u32 0, Value.int .u32 0, Value.int .u32 0, Value.int .u32 0, Value.int .u32 0] 38))
  go_wp2_with (first
    | (refine wpList_store_row rfl 38 (.tmp 5) (.tmp 6) rfl w1.heap.size (K64.map fun x : Nat => Value.int .u32 (x : Int)).toArray rfl rfl 38 #[Value.int .u32 0, Value.int .u32 0, Value.int .u32 0, Value.int .u32 0, Value.int .u32 0, Value.int .u32 0, Value.int .u32 0, Value.int .u32 0, Value.int .u32 0, Value.int .u32 0, Value.int .u32 0, Value.int .u32 0, Value.int .u32 0, Value.int .u32 0, Value.int .u32 0, Value.int .u32 0, Value.int .u32 0, Value.int .u32 0, Value.int .u32 0, Value.int .u32 0, Value.int .u32 0, Value.int .u32 0, Value.int .u32 0, Value.int .u32 0, Value.int .u32 0, Value.int .u32 0, Value.int .u32 0, Value.int .u32 0, Value.int .u32 0, Value.int .u32 0, Value.int .u32 0, Value.int .u32 0, Value.int .u32 0, Value.int .u32 0, Value.int .u32 0, Value.int .u32 0, Value.int .u32 0, Value.int .u32 0, Value.int .u32 0, Value.int .u32 0, Value.int .u32 0, Value.int .u32 0, Value.int .u32 0, Value.int .u32 0, Value.int .u32 0, Value.int .u32 0, Value.int .u32 0, Value.int .u32 0, Value.int .u32 0, Value.int .u32 0, Value.int .u32 0, Value.int .u32 0, Value.int .u32 0, Value.int .u32 0, Value.int .u32 0, Value.int .u32 0, Value.int .u32 0, Value.int .u32 0, Value.int .u32 0, Value.int .u32 0, Value.int .u32 0, Value.int .u32 0, Value.int .u32 0, Value.int .u32 0] e64.out (HI.out.trans (by rw [HK.out])) (by rw [HK.out]; rfl) (by simp [Value.oneCell']) ?_)
    | fail)
  have zw := I1.out.hr.lt
  have I2 := Lib.hid (show Bl17 w s b ((w1.alloc (.cells #[Value.int .u32 0, Value.int .u32 0, Value.int .u32 0, Value.int .u32 0, Value.int .u32 0, Value.int .u32 0, Value.int .u32 0, Value.int .u32 0, Value.int .u32 0, Value.int .u32 0, Value.int .u32 0, Value.int .u32 0, Value.int .u32 0, Value.int .u32 0, Value.int .u32 0, Value.int .u32 0, Value.int .u32 0, Value.int .u32 0, Value.int .u32 0, Value.int .u32 0, Value.int .u32 0, Value.int .u32 0, Value.int .u32 0, Value.int .u32 0, Value.int .u32 0, Value.int .u32 0, Value.int .u32 0, Value.int .u32 0, Value.int .u32 0, Value.int .u32 0, Value.int .u32 0, Value.int .u32 0, Value.int .u32 0, Value.int .u32 0, Value.int .u32 0, Value.int .u32 0, Value.int .u32 0, Value.int .u32 0, Value.int .u32 0, Value.int .u32 0, Value.int .u32 0, Value.int .u32 0, Value.int .u32 0, Value.int .u32 0, Value.int .u32 0, Value.int .u32 0, Value.int .u32 0, Value.int .u32 0, Value.int .u32 0, Value.int .u32 0, Value.int .u32 0, Value.int .u32 0, Value.int .u32 0, Value.int .u32 0, Value.int .u32 0, Value.int .u32 0, Value.int .u32 0, Value.int .u32 0, Value.int .u32 0, Value.int .u32 0, Value.int .u32 0, Value.int .u32 0, Value.int .u32 0, Value.int .u32 0] 38)).setRow w1.heap.size (K64.map fun x : Nat => Value.int .u32 (x : Int)).toArray) from
    I1.out.below (below_setRow ((Below.refl _ _).alloc (Nat.le_refl _) _) (Nat.le_refl _) _))
  have K2 := Lib.hid (show Arr .u32 38 ((w1.alloc (.cells #[Value.int .u32 0, Value.int .u32 0, Value.int .u32 0, Value.int .u32 0, Value.int .u32 0, Value.int .u32 0, Value.int .u32 0, Value.int .u32 0, Value.int .u32 0, Value.int .u32 0, Value.int .u32 0, Value.int .u32 0, Value.int .u32 0, Value.int .u32 0, Value.int .u32 0, Value.int .u32 0, Value.int .u32 0, Value.int .u32 0, Value.int .u32 0, Value.int .u32 0, Value.int .u32 0, Value.int .u32 0, Value.int .u32 0, Value.int .u32 0, Value.int .u32 0, Value.int .u32 0, Value.int .u32 0, Value.int .u32 0, Value.int .u32 0, Value.int .u32 0, Value.int .u32 0, Value.int .u32 0, Value.int .u32 0, Value.int .u32 0, Value.int .u32 0, Value.int .u32 0, Value.int .u32 0, Value.int .u32 0, Value.int .u32 0, Value.int .u32 0, Value.int .u32 0, Value.int .u32 0, Value.int .u32 0, Value.int .u32 0, Value.int .u32 0, Value.int .u32 0, Value.int .u32 0, Value.int .u32 0, Value.int .u32 0, Value.int .u32 0, Value.int .u32 0, Value.int .u32 0, Value.int .u32 0, Value.int .u32 0, Value.int .u32 0, Value.int .u32 0, Value.int .u32 0, Value.int .u32 0, Value.int .u32 0, Value.int .u32 0, Value.int .u32 0, Value.int .u32 0, Value.int .u32 0, Value.int .u32 0] 38)).setRow w1.heap.size (K64.map fun x : Nat => Value.int .u32 (x : Int)).toArray) w1.heap.size K64 from setRow_heap _ _ _ _ _ _ e64.out)
  clear e64 I1
  generalize ((w1.alloc (.cells #[Value.int .u32 0, Value.int .u32 0, Value.int .u32 0, Value.int .u32 0, Value.int .u32 0, Value.int .u32 0, Value.int .u32 0, Value.int .u32 0, Value.int .u32 0, Value.int .u32 0, Value.int .u32 0, Value.int .u32 0, Value.int .u32 0, Value.int .u32 0, Value.int .u32 0, Value.int .u32 0, Value.int .u32 0, Value.int .u32 0, Value.int .u32 0, Value.int .u32 0, Value.int .u32 0, Value.int .u32 0, Value.int .u32 0, Value.int .u32 0, Value.int .u32 0, Value.int .u32 0, Value.int .u32 0, Value.int .u32 0, Value.int .u32 0, Value.int .u32 0, Value.int .u32 0, Value.int .u32 0, Value.int .u32 0, Value.int .u32 0, Value.int .u32 0, Value.int .u32 0, Value.int .u32 0, Value.int .u32 0, Value.int .u32 0, Value.int .u32 0, Value.int .u32 0, Value.int .u32 0, Value.int .u32 0, Value.int .u32 0, Value.int .u32 0, Value.int .u32 0, Value.int .u32 0, Value.int .u32 0, Value.int .u32 0, Value.int .u32 0, Value.int .u32 0, Value.int .u32 0, Value.int .u32 0, Value.int .u32 0, Value.int .u32 0, Value.int .u32 0, Value.int .u32 0, Value.int .u32 0, Value.int .u32 0, Value.int .u32 0, Value.int .u32 0, Value.int .u32 0, Value.int .u32 0, Value.int .u32 0] 38)).setRow w1.heap.size (K64.map fun x : Nat => Value.int .u32 (x : Int)).toArray) = w2 at *
  refine wp_region_tree (SK.one 0 false <| .one 1 false <| .one 2 true <| .one 3 true .done) (fun V => Arr .u32 36 w2.drew w.heap.size s.list ∧ V.heap[w.heap.size]? = some (.cells #[.int .u32 (s.a : Int), .int .u32 (s.b : Int), .int .u32 (s.c : Int), .int .u32 (s.d : Int), .int .u32 (s.e : Int), .int .u32 (s.f : Int), .int .u32 (s.g : Int), .int .u32 (s.h : Int)] 36 (0, 0))) (by kernel_rfl) (by kernel_rfl) (by kernel_rfl) (by kernel_rfl) ?_
  have I3 := Lib.hid I2.out.bel.drew
  have I4 := Lib.hid (show Bl17 w s b w2.drew from ⟨I2.out.hs, I2.out.hb, I2.out.hr, I3.out⟩)
  have K4 := Lib.hid (show Arr .u32 38 w2.drew w1.heap.size K64 from K2.out)
  clear I2 I3 K2
  have hS : Arr .u32 36 w2.drew w.heap.size s.list ∧ w2.drew.heap[w.heap.size]? = some (.cells #[.int .u32 (s.a : Int), .int .u32 (s.b : Int), .int .u32 (s.c : Int), .int .u32 (s.d : Int), .int .u32 (s.e : Int), .int .u32 (s.f : Int), .int .u32 (s.g : Int), .int .u32 (s.h : Int)] 36 (0, 0)) := ⟨I4.out.hs, I4.out.hs⟩
  generalize w2.drew = V0 at *
  refine TR.val2 (v := .agg #[.int .u32 (s.a : Int), .int .u32 (s.b : Int), .int .u32 (s.c : Int), .int .u32 (s.d : Int), .int .u32 (s.e : Int), .int .u32 (s.f : Int), .int .u32 (s.g : Int), .int .u32 (s.h : Int)]) _ (by simp only [List.getElem?_toArray, List.getElem?_cons_zero]; rfl) ?_ ?_ ?_ ?_ ?_
  (focus rfl)
  (focus exact fun V hV => exec_load_row 36 (.tmp 2) rfl w.heap.size rfl 36 _ (0, 0) _ hV.2 Try.underlying36 rfl HI8.out)
  (focus exact fun _ _ _ h => h)
  (focus exact hS)
  simp only [Act.put, List.setIfInBounds_toArray, List.set_cons_zero, List.set_cons_succ]
  iterate 1 ((first | (refine TR.val2 (v := ?_) _ (by simp only [List.getElem?_toArray, List.getElem?_cons_succ, List.getElem?_cons_zero]; rfl) ?_ ?_ ?_ ?_ ?_; rotate_left; (focus rfl); (focus (intro W hSW; (try dsimp only at hSW); (try (obtain ⟨hS1, hSW⟩ := hSW)); (try (obtain ⟨hS2, hSW⟩ := hSW)); (try (obtain ⟨hS3, hSW⟩ := hSW)); (try (obtain ⟨hS4, hSW⟩ := hSW)); (try (obtain ⟨hS5, hSW⟩ := hSW)); go_simp; (try with_reducible rfl); done)); (focus exact fun _ _ _ h => h); (focus assumption)) | (refine TR.skip _ (by simp only [List.getElem?_toArray, List.getElem?_cons_succ, List.getElem?_cons_zero]; rfl) ?_ ?_ ?_ ?_; (focus rfl); (focus exact fun _ _ _ h => h); (focus assumption))); simp only [Act.put, List.setIfInBounds_toArray, List.set_cons_zero, List.set_cons_succ])
  refine TR.eff _ (by simp only [List.getElem?_toArray, List.getElem?_cons_succ, List.getElem?_cons_zero]; rfl) (by rfl) (fun K hK => ?_); go_simp
  have CR := Lib.hid (show NReads .u8 V0 V0.heap.size (some ⟨w.heap.size + 1, 0, none⟩) 64 b from ⟨by simp [HL.out], fun _ => ⟨_, rfl, I4.out.hb.lt, fun j u hu => by
    rw [add_head]
    rw [List.getElem?_map] at hu
    cases hx : b[j]? with
    | none => rw [hx] at hu; cases hu
    | some x => rw [hx] at hu; injection hu with hu; subst hu; exact I4.out.hb.cell hx⟩⟩)
  have BV := Lib.hid (block_v w1.heap.size K64 s _ 64 b V0 K4.out len_K64 K64_fit HS.out CR.out HB.out)
  refine BV.out.mono ?_
  rintro e w3 ⟨rfl, hb3⟩
  have I5 := Lib.hid (I4.out.below hb3)
  refine hK.out _ _ ⟨hS.1, I5.out.hs⟩ ?_
  clear hK hb3 BV CR
  (try simp only [Act.put, List.setIfInBounds_toArray, List.set_cons_zero, List.set_cons_succ])
  refine TR.eff _ (by simp only [List.getElem?_toArray, List.getElem?_cons_succ, List.getElem?_cons_zero]; rfl) (by rfl) (fun K hK => ?_)
  obtain ⟨q, hq⟩ : ∃ q, blockP K64 s b = q := ⟨_, rfl⟩
  rw [hq]
  have HQ := Lib.hid hq
  clear hq
  refine wp_store_row 36 (.tmp 4) (.tmp 9) rfl (w.heap.size + 1 + 1) (q.list.map fun x : Nat => Value.int .u32 (x : Int)).toArray rfl rfl 36 _ I5.out.hr HI8.out rfl (by simp [Value.oneCell']) ?_
  refine hK.out _ _ ⟨hS.1, (setRow_other _ _ _ _ (by omega)).trans I5.out.hs⟩ ?_
  clear hK
  refine TR.done ?_
  have HW := Lib.hid (setRow_heap w3 (w.heap.size + 1 + 1) _ (q.list.map fun x : Nat => Value.int .u32 (x : Int)).toArray _ _ I5.out.hr)
  have HBL := Lib.hid (below_setRow I5.out.bel (show w.heap.size ≤ w.heap.size + 1 + 1 by omega) (q.list.map fun x : Nat => Value.int .u32 (x : Int)).toArray)
  go_wp2
  exact bodyPost_ret (results_cell_row Try.results17 _ _ (w.heap.size + 1 + 1) _ _ _ _ rfl HW.out Try.underlying36 rfl HI8.out) rfl ⟨by rw [HQ.out], HBL.out⟩
end Go.Proofs.Ytlbiinkidecfbaa
