/-
  Arrays of integers against themselves; a hash.
-/
import Derived.Test.YtlbiinkidecfbaaShaN
import Derived.Laws.StructEq
namespace Go.Proofs.Ytlbiinkidecfbaa
open Go.RowKit
theorem run_equal_arr {P : Program} {w : World} {t e : TypeId} {n d : Nat} {k : IntKind} {cs : Array Value} (h : P.underlying t = some (.array n e)) (he : P.underlying e = some (.int k)) (hi : (P.info? e).map (·.size) = some 1)
    (hc : ∀ i, i < n → ∃ z, cs[i]? = some (.int k z)) : (Op.equalIn (d + 2) t (.agg cs) (.agg cs)).run P w = .ok true w := by
  have hsz : (sizeOf e).run P w = .ok 1 w := by
    cases hq : P.info? e with
    | none => simp [hq] at hi
    | some i =>
      have hs : i.size = 1 := by simpa [hq] using hi
      simp [sizeOf, typeInfo, hq, hs]
  have key : ∀ l : List Nat, (∀ i ∈ l, i < n) → (forIn (m := Sem) l ((none : Option Bool), ()) fun i _ => do
      let x ← part e cs (i * 1)
      let y ← part e cs (i * 1)
      let b ← Op.equalIn (d + 1) e x y
      if (!b) = true then pure (ForInStep.done (some false, ())) else pure (ForInStep.yield (none, ()))).run P w = .ok (none, ()) w := by
    intro l
    induction l with
    | nil => intro _; simp
    | cons i l ih =>
      intro hl
      obtain ⟨z, hz⟩ := hc i (hl i List.mem_cons_self)
      have hp : (part e cs (i * 1)).run P w = .ok (.int k z) w := by simp [part, isAgg, run_underlying he, hz, Result.andThen]
      simp only [List.forIn_cons, Sem.run_bind, hp, Result.andThen_ok, run_equalIn_int w d e k k z z he, beq_self_eq_true, Bool.not_true, Bool.false_eq_true, if_false, Sem.run_pure]
      exact ih fun j hj => hl j (List.mem_cons_of_mem _ hj)
  rw [Op.equalIn]
  simp only [Sem.run_bind, run_underlying h, Result.andThen_ok, hsz]
  simp only [Std.Legacy.Range.forIn_eq_forIn_range']
  rw [key _ (fun i hi => by simp [Std.Legacy.Range.size] at hi; omega)]
  simp
/-- A digest against itself. -/
theorem eq_dig (l : List Nat) (hl : l.length = 32) (w : World) : (binOp .eql 29 (.agg (l.map fun x : Nat => Value.int .u8 (x : Int)).toArray) (.agg (l.map fun x : Nat => Value.int .u8 (x : Int)).toArray)).run Try.prog w = .ok (.bool true) w := by
  rw [run_eql_struct, run_equal_arr Try.underlying29 Try.underlying5 (by kernel_rfl) (fun i hi => ⟨((l[i]'(by omega) : Nat) : Int), by rw [List.getElem?_toArray, List.getElem?_map, List.getElem?_eq_getElem (by omega)]; rfl⟩)]
  rfl
theorem neq_dig (l : List Nat) (hl : l.length = 32) (w : World) : (binOp .neq 29 (.agg (l.map fun x : Nat => Value.int .u8 (x : Int)).toArray) (.agg (l.map fun x : Nat => Value.int .u8 (x : Int)).toArray)).run Try.prog w = .ok (.bool false) w := by
  rw [run_neq_struct, run_equal_arr Try.underlying29 Try.underlying5 (by kernel_rfl) (fun i hi => ⟨((l[i]'(by omega) : Nat) : Int), by rw [List.getElem?_toArray, List.getElem?_map, List.getElem?_eq_getElem (by omega)]; rfl⟩)]
  rfl
theorem BOwn.keep {base n c : Nat} {A : Option Addr} {l : List UInt8} {W W' : World} (h : BOwn W base A n c l) (hk : ∀ j, (Value.slice A n c).ownBlock = some j → W'.heap[j]? = W.heap[j]?) : BOwn W' base A n c l := by
  refine ⟨⟨h.1.1, ?_⟩, h.2⟩
  rcases h.1.2 with hn | ⟨g, cap, cur, ev, hg, hh, rest⟩
  · exact .inl hn
  · exact .inr ⟨g, cap, cur, ev, hg, (hk g (by rw [ev]; rfl)).trans hh, rest⟩
/-- A hash at block g, over base, that holds these bytes. -/
structure Hsh (base g : Nat) (l : List UInt8) (W : World) : Prop where
  row : ∃ A n c, W.cell? ⟨g, 0, none⟩ = some (.slice A n c) ∧ BOwn W base A n c l ∧ ∀ j, (Value.slice A n c).ownBlock = some j → j ≠ g
  fr : W.frozen? ⟨g, 0, none⟩ = false
  lt : g < W.heap.size
  hb : base ≤ g
theorem Hsh.below {base g : Nat} {l : List UInt8} {W W' : World} (h : Hsh base g l W) (hb : Below W.heap.size W W') : Hsh base g l W' := by
  obtain ⟨A, n, c, h1, h2, h3⟩ := h.row
  exact ⟨⟨A, n, c, (hb.cell h.lt).trans h1, h2.below hb, h3⟩, (hb.frozen (p := ⟨g, 0, none⟩) h.lt).trans h.fr, Nat.lt_of_lt_of_le h.lt hb.size, h.hb⟩
theorem hnew_v (w : World) : Calls Try.prog 19 #[] w fun e w' => e = .returned (.pointer (some ⟨w.heap.size, 0, none⟩)) ∧ Hsh w.heap.size w.heap.size [] w' ∧ Below w.heap.size w w' := by
  go_enter Try.func19, Try.ntmps19
  go_wp2
  go_ret
  exact ⟨rfl, ⟨⟨none, 0, 0, cell_new _ _ _ 0, BOwn.nil_ _ _, by simp [Value.ownBlock]⟩, frozen_new _ _ _, by simp, Nat.le_refl _⟩, (Below.refl _ _).alloc (Nat.le_refl _) _⟩
set_option maxHeartbeats 1000000 in
theorem hwrite_v (base g : Nat) (l : List UInt8) (B : Nat) (A : Option Addr) (n c : Nat) (b : List UInt8) (w : World) (hh : Hsh base g l w) (hr : BReads w B A n b) (hn : l.length + n ≤ 1000000) :
    Calls Try.prog 9 #[.pointer (some ⟨g, 0, none⟩), .slice A n c] w fun e w' => e = .returned (.int .i64 0) ∧ Hsh base g (l ++ b) w' ∧ Below base w w' := by
  obtain ⟨A1, n1, c1, h1, ho, hne⟩ := hh.row
  have HF := hh.fr
  have HLT := hh.lt
  have HBG := hh.hb
  have HL := Lib.hid ho.len
  have HO := Lib.hid ho
  have HNE := Lib.hid hne
  clear ho hne
  go_enter Try.func9, Try.ntmps9
  go_wp2_with (at_builtin
               refine wpList_app rfl (.tmp 11) (.tmp 12) rfl base A1 n1 c1 l rfl HO.out B A n c b rfl hr (n1 + n) (l ++ b) rfl rfl (by have := HL.out; omega) (by omega) ?_
               intro A2 c2 w2 ho2 hg2 hat2
               have hgb : w2.heap[g]? = w.heap[g]? := hg2.block g HLT (fun e => HNE.out g e.symm rfl)
               have hc2 : w2.cell? ⟨g, 0, none⟩ = some (.slice A1 n1 c1) := (World.cell?_of_block hgb).trans h1
               have hf2 : w2.frozen? ⟨g, 0, none⟩ = false := by simp only [World.frozen?, hgb] at HF ⊢; exact HF
               have hz2 := hg2.size
               have HO2 := Lib.hid ho2
               have HAT := Lib.hid hat2
               have HG2 := Lib.hid hg2
               clear hgb ho2 hat2 hg2)
  go_ret
  have hbl : ∀ j, (Value.slice A2 (n1 + n) c2).ownBlock = some j → j ≠ g := fun j hj => by
    rcases HAT.out with e | e
    · exact HNE.out j (e ▸ hj)
    · rw [e] at hj; injection hj with hj; omega
  refine ⟨rfl, ⟨⟨A2, n1 + n, c2, World.cell?_setCell_same' _ _ _ (by rw [hc2]; rfl), HO2.out.keep fun j hj => Below.heap_setCell w2 _ _ j (hbl j hj), hbl⟩, by rw [World.frozen?_setCell]; exact hf2, by simp [World.setCell]; omega, HBG⟩, ?_⟩
  exact ((Below.refl base w).grown HG2.out (by omega) (fun j hj => (HO.out.base_le j hj).1)).setCell HBG _
theorem hsize_v (base g : Nat) (l : List UInt8) (w : World) (hh : Hsh base g l w) :
    Calls Try.prog 12 #[.pointer (some ⟨g, 0, none⟩)] w fun e w' => e = .returned (.int .i64 (l.length : Int)) ∧ w = w' := by
  obtain ⟨A1, n1, c1, h1, ho, _⟩ := hh.row
  have HL := Lib.hid ho.len
  clear ho
  go_enter Try.func12, Try.ntmps12
  go_wp2
  go_ret
  exact ⟨by rw [HL.out]; rfl, rfl⟩
set_option maxRecDepth 100000 in
set_option maxHeartbeats 1000000 in
theorem hsum_v (base g : Nat) (l : List UInt8) (w : World) (hh : Hsh base g l w) (hn : l.length ≤ 1000000) :
    Calls Try.prog 11 #[.pointer (some ⟨g, 0, none⟩)] w fun e w' => e = .returned (.agg ((sha (l.map UInt8.toNat)).map fun x : Nat => Value.int .u8 (x : Int)).toArray) ∧ Below w.heap.size w w' := by
  obtain ⟨A1, n1, c1, h1, ho, _⟩ := hh.row
  have HLT := hh.lt
  have HL := Lib.hid ho.len
  have h1' : (w.alloc (.cells #[Value.int .u8 0, Value.int .u8 0, Value.int .u8 0, Value.int .u8 0, Value.int .u8 0, Value.int .u8 0, Value.int .u8 0, Value.int .u8 0, Value.int .u8 0, Value.int .u8 0, Value.int .u8 0, Value.int .u8 0, Value.int .u8 0, Value.int .u8 0, Value.int .u8 0, Value.int .u8 0, Value.int .u8 0, Value.int .u8 0, Value.int .u8 0, Value.int .u8 0, Value.int .u8 0, Value.int .u8 0, Value.int .u8 0, Value.int .u8 0, Value.int .u8 0, Value.int .u8 0, Value.int .u8 0, Value.int .u8 0, Value.int .u8 0, Value.int .u8 0, Value.int .u8 0, Value.int .u8 0] 29)).cell? ⟨g, 0, none⟩ = some (.slice A1 n1 c1) := (cell_old w (.cells #[Value.int .u8 0, Value.int .u8 0, Value.int .u8 0, Value.int .u8 0, Value.int .u8 0, Value.int .u8 0, Value.int .u8 0, Value.int .u8 0, Value.int .u8 0, Value.int .u8 0, Value.int .u8 0, Value.int .u8 0, Value.int .u8 0, Value.int .u8 0, Value.int .u8 0, Value.int .u8 0, Value.int .u8 0, Value.int .u8 0, Value.int .u8 0, Value.int .u8 0, Value.int .u8 0, Value.int .u8 0, Value.int .u8 0, Value.int .u8 0, Value.int .u8 0, Value.int .u8 0, Value.int .u8 0, Value.int .u8 0, Value.int .u8 0, Value.int .u8 0, Value.int .u8 0, Value.int .u8 0] 29) g 0 HLT).trans h1
  have R1 := Lib.hid (Reads.more (Reads.alloc (show Reads w w.heap.size 1 A1 n1 _ from ho.reads) (Nat.le_refl _) (.cells #[Value.int .u8 0, Value.int .u8 0, Value.int .u8 0, Value.int .u8 0, Value.int .u8 0, Value.int .u8 0, Value.int .u8 0, Value.int .u8 0, Value.int .u8 0, Value.int .u8 0, Value.int .u8 0, Value.int .u8 0, Value.int .u8 0, Value.int .u8 0, Value.int .u8 0, Value.int .u8 0, Value.int .u8 0, Value.int .u8 0, Value.int .u8 0, Value.int .u8 0, Value.int .u8 0, Value.int .u8 0, Value.int .u8 0, Value.int .u8 0, Value.int .u8 0, Value.int .u8 0, Value.int .u8 0, Value.int .u8 0, Value.int .u8 0, Value.int .u8 0, Value.int .u8 0, Value.int .u8 0] 29)) (show w.heap.size ≤ (w.alloc (.cells #[Value.int .u8 0, Value.int .u8 0, Value.int .u8 0, Value.int .u8 0, Value.int .u8 0, Value.int .u8 0, Value.int .u8 0, Value.int .u8 0, Value.int .u8 0, Value.int .u8 0, Value.int .u8 0, Value.int .u8 0, Value.int .u8 0, Value.int .u8 0, Value.int .u8 0, Value.int .u8 0, Value.int .u8 0, Value.int .u8 0, Value.int .u8 0, Value.int .u8 0, Value.int .u8 0, Value.int .u8 0, Value.int .u8 0, Value.int .u8 0, Value.int .u8 0, Value.int .u8 0, Value.int .u8 0, Value.int .u8 0, Value.int .u8 0, Value.int .u8 0, Value.int .u8 0, Value.int .u8 0] 29)).heap.size by simp))
  have HB0 := Lib.hid (show Arr .u8 29 (w.alloc (.cells #[Value.int .u8 0, Value.int .u8 0, Value.int .u8 0, Value.int .u8 0, Value.int .u8 0, Value.int .u8 0, Value.int .u8 0, Value.int .u8 0, Value.int .u8 0, Value.int .u8 0, Value.int .u8 0, Value.int .u8 0, Value.int .u8 0, Value.int .u8 0, Value.int .u8 0, Value.int .u8 0, Value.int .u8 0, Value.int .u8 0, Value.int .u8 0, Value.int .u8 0, Value.int .u8 0, Value.int .u8 0, Value.int .u8 0, Value.int .u8 0, Value.int .u8 0, Value.int .u8 0, Value.int .u8 0, Value.int .u8 0, Value.int .u8 0, Value.int .u8 0, Value.int .u8 0, Value.int .u8 0] 29)) w.heap.size (List.replicate 32 0) from Arr.new w _ _ rfl)
  have HI9 := Lib.hid (show (Try.prog.info? 29).map (·.size) = some 32 by kernel_rfl)
  have HB := Lib.hid ((Below.refl w.heap.size w).alloc (Nat.le_refl _) (.cells #[Value.int .u8 0, Value.int .u8 0, Value.int .u8 0, Value.int .u8 0, Value.int .u8 0, Value.int .u8 0, Value.int .u8 0, Value.int .u8 0, Value.int .u8 0, Value.int .u8 0, Value.int .u8 0, Value.int .u8 0, Value.int .u8 0, Value.int .u8 0, Value.int .u8 0, Value.int .u8 0, Value.int .u8 0, Value.int .u8 0, Value.int .u8 0, Value.int .u8 0, Value.int .u8 0, Value.int .u8 0, Value.int .u8 0, Value.int .u8 0, Value.int .u8 0, Value.int .u8 0, Value.int .u8 0, Value.int .u8 0, Value.int .u8 0, Value.int .u8 0, Value.int .u8 0, Value.int .u8 0] 29))
  clear ho h1
  go_enter Try.func11, Try.ntmps11
  go_wp2_with fail
  refine (of_v A1 n1 c1 l _ R1.out (by have := HL.out; omega)).mono ?_
  rintro e w2 ⟨rfl, hb2⟩
  have HB1 := Lib.hid (HB0.out.below hb2)
  have HB2 := Lib.hid (HB.out.trans (hb2.mono HB.out.size))
  obtain ⟨ds, hds⟩ : ∃ ds, sha (l.map UInt8.toNat) = ds := ⟨_, rfl⟩
  have HSZ := Lib.hid (show (ds.map fun x : Nat => Value.int .u8 (x : Int)).toArray.size = 32 by rw [← hds]; rfl)
  rw [hds]
  have HDS := Lib.hid hds
  clear hb2 hds HB HB0 R1 h1'
  go_wp2_with (first
    | (refine wpList_store_row rfl 29 (.tmp 2) (.tmp 10) rfl w.heap.size (ds.map fun x : Nat => Value.int .u8 (x : Int)).toArray rfl rfl 29 _ HB1.out (HI9.out.trans (by rw [HSZ.out])) (by rw [HSZ.out]; rfl) (by simp [Value.oneCell']) ?_)
    | fail)
  have HW := Lib.hid (setRow_heap w2 w.heap.size _ (ds.map fun x : Nat => Value.int .u8 (x : Int)).toArray _ _ HB1.out)
  exact bodyPost_ret (results_cell_row Try.results11 _ _ w.heap.size _ _ _ _ rfl HW.out Try.underlying29 rfl (HI9.out.trans (by rw [HSZ.out]))) rfl ⟨by rw [HDS.out], below_setRow HB2.out (Nat.le_refl _) _⟩
set_option maxHeartbeats 1000000 in
theorem pick_v (z m : Int) (w : World) (hm : 0 < m) (hm2 : m ≤ 1000000) :
    Calls Try.prog 20 #[.int .i64 z, .int .i64 m] w fun e w' => ∃ k : Nat, e = .returned (.int .i64 (k : Int)) ∧ (k : Int) < m ∧ w = w' := by
  have hlo : -m < z.tmod m := by
    rcases Int.le_total 0 z with h | h
    · have := Int.tmod_nonneg m h; omega
    · have h1 : z.tmod m = -((-z).tmod m) := by rw [Int.neg_tmod]; omega
      have h2 := Int.tmod_lt_of_pos (-z) hm
      omega
  have hhi := Int.tmod_lt_of_pos z hm
  by_cases h0 : z.tmod m < 0
  · have e1 : IntKind.i64.wrap (z.tmod m) = z.tmod m := IntWalk.i64_in _ (by omega)
    obtain ⟨r, hr⟩ : ∃ r, z.tmod m = r := ⟨_, rfl⟩
    rw [hr] at e1 h0 hlo hhi
    obtain ⟨k, hk⟩ := Int.eq_ofNat_of_zero_le (show 0 ≤ r + m by omega)
    have HK := Lib.hid hk
    clear hk
    go_enter Try.func20, Try.ntmps20
    go_wp2
    go_ret
    have hk := HK.out
    exact ⟨k, ret_int hk, by omega, rfl⟩
  · have hzz : z.tmod m = z.tmod m := rfl
    obtain ⟨k, hk⟩ := Int.eq_ofNat_of_zero_le (show 0 ≤ z.tmod m by omega)
    have e1 : IntKind.i64.wrap (z.tmod m) = z.tmod m := IntWalk.i64_in _ (by omega)
    have e2 : 0 ≤ z → z % m = z.tmod m := fun h => (Int.tmod_eq_emod_of_nonneg h).symm
    rcases Int.le_total 0 z with h | h
    · have e3 := e2 h
      rw [hk] at e1 e3 hhi
      clear hzz hlo e2 h0
      have hk0 : ¬ (k : Int) < 0 := by omega
      go_enter Try.func20, Try.ntmps20
      go_wp2
      go_ret
      exact ⟨k, rfl, by omega, rfl⟩
    · rw [hk] at e1 hhi
      clear hzz hlo e2 h0
      have hk0 : ¬ (k : Int) < 0 := by omega
      go_enter Try.func20, Try.ntmps20
      go_wp2
      go_ret
      exact ⟨k, rfl, by omega, rfl⟩
end Go.Proofs.Ytlbiinkidecfbaa
