/-
  Digests: the walk of DigestCalls.
-/
import Derived.Test.YtlbiinkidecfbaaShaY
import Derived.Test.YtlbiinkidecfbaaShaZ
namespace Go.Proofs.Ytlbiinkidecfbaa
open Go.RowKit
/-- What Parse answers at any text. -/
def pAll (s : ByteArray) : List Nat × Nat := if s.size = 64 then parsed s.data.toList else (List.replicate 32 0, 2)
theorem parsed_len (l : List UInt8) : (parsed l).1.length = 32 := by
  cases h : parseK l 32 with
  | none => rw [parsed_none h (Nat.le_refl _)]; rfl
  | some ds => rw [parsed_some h]; exact parseK_len h
theorem pAll_len (s : ByteArray) : (pAll s).1.length = 32 := by
  unfold pAll
  split
  · exact parsed_len _
  · rfl
theorem parse_all (s : ByteArray) (w : World) : Calls Try.prog 13 #[.string s] w fun e w' => e = .returned (.tuple #[.agg ((pAll s).1.map fun x : Nat => Value.int .u8 (x : Int)).toArray, .int .i64 ((pAll s).2 : Int)]) ∧ Below w.heap.size w w' := by
  by_cases h : s.size = 64
  · rw [pAll, if_pos h]; exact parse_v s w h
  · rw [pAll, if_neg h]; exact parse_short s w h
theorem rparse_all (s : ByteArray) (w : World) : Calls Try.prog 21 #[.string s] w fun e w' => e = .returned (.tuple #[.agg ((pAll s).1.map fun x : Nat => Value.int .u8 (x : Int)).toArray, .int .i64 ((pAll s).2 : Int)]) ∧ Below w.heap.size w w' := by
  by_cases h : s.size = 64
  · rw [pAll, if_pos h]; exact rparse_v s w h
  · rw [pAll, if_neg h]; exact rparse_short s w h
theorem eq_w8 (l : List Nat) (hl : l.length = 8) (w : World) : (binOp .eql 36 (.agg (l.map fun x : Nat => Value.int .u32 (x : Int)).toArray) (.agg (l.map fun x : Nat => Value.int .u32 (x : Int)).toArray)).run Try.prog w = .ok (.bool true) w := by
  rw [run_eql_struct, run_equal_arr Try.underlying36 Try.underlying35 (by kernel_rfl) (fun i hi => ⟨((l[i]'(by omega) : Nat) : Int), by rw [List.getElem?_toArray, List.getElem?_map, List.getElem?_eq_getElem (by omega)]; rfl⟩)]
  rfl
theorem eq_w64 (l : List Nat) (hl : l.length = 64) (w : World) : (binOp .eql 38 (.agg (l.map fun x : Nat => Value.int .u32 (x : Int)).toArray) (.agg (l.map fun x : Nat => Value.int .u32 (x : Int)).toArray)).run Try.prog w = .ok (.bool true) w := by
  rw [run_eql_struct, run_equal_arr Try.underlying38 Try.underlying35 (by kernel_rfl) (fun i hi => ⟨((l[i]'(by omega) : Nat) : Int), by rw [List.getElem?_toArray, List.getElem?_map, List.getElem?_eq_getElem (by omega)]; rfl⟩)]
  rfl
/-- What stands while the statement is answered. -/
structure DcI (w : World) (s : St) (b ds px : List Nat) (g13 g15 : Nat) (A : Option Addr) (n : Nat) (l : List UInt8) (W : World) : Prop where
  h7 : Arr .u32 36 W w.heap.size s.list
  h8 : Arr .u8 42 W (w.heap.size + 1) b
  h11 : Arr .u8 29 W (w.heap.size + 1 + 1) ds
  h13 : Arr .u8 29 W g13 px
  h15 : Arr .u8 29 W g15 px
  hb : Below w.heap.size w W
  hr : BReads W w.heap.size A n l
theorem DcI.below {w : World} {s : St} {b ds px : List Nat} {g13 g15 n : Nat} {A : Option Addr} {l : List UInt8} {W W' : World} (h : DcI w s b ds px g13 g15 A n l W) (hb : Below W.heap.size W W') : DcI w s b ds px g13 g15 A n l W' :=
  ⟨h.h7.below hb, h.h8.below hb, h.h11.below hb, h.h13.below hb, h.h15.below hb, h.hb.trans (hb.mono h.hb.size), Reads.below h.hr (hb.mono h.hb.size)⟩
theorem DcI.drew {w : World} {s : St} {b ds px : List Nat} {g13 g15 n : Nat} {A : Option Addr} {l : List UInt8} {W : World} (h : DcI w s b ds px g13 g15 A n l W) : DcI w s b ds px g13 g15 A n l W.drew :=
  ⟨h.h7, h.h8, h.h11, h.h13, h.h15, h.hb.drew, h.hr⟩
/-- The same before the results are laid. -/
structure DcH (w : World) (s : St) (b ds : List Nat) (W : World) : Prop where
  h7 : Arr .u32 36 W w.heap.size s.list
  h8 : Arr .u8 42 W (w.heap.size + 1) b
  h11 : Arr .u8 29 W (w.heap.size + 1 + 1) ds
  hb : Below w.heap.size w W
theorem DcH.below {w : World} {s : St} {b ds : List Nat} {W W' : World} (h : DcH w s b ds W) (hb : Below W.heap.size W W') : DcH w s b ds W' :=
  ⟨h.h7.below hb, h.h8.below hb, h.h11.below hb, h.hb.trans (hb.mono h.hb.size)⟩
theorem DcH.start (w : World) (s : St) (b ds : List Nat) : DcH w s b ds (((w.alloc (.cells #[.int .u32 (s.a : Int), .int .u32 (s.b : Int), .int .u32 (s.c : Int), .int .u32 (s.d : Int), .int .u32 (s.e : Int), .int .u32 (s.f : Int), .int .u32 (s.g : Int), .int .u32 (s.h : Int)] 36)).alloc (.cells (b.map fun x : Nat => Value.int .u8 (x : Int)).toArray 42)).alloc (.cells (ds.map fun x : Nat => Value.int .u8 (x : Int)).toArray 29)) := by
  obtain ⟨w1, hw1⟩ : ∃ w1, w.alloc (.cells #[.int .u32 (s.a : Int), .int .u32 (s.b : Int), .int .u32 (s.c : Int), .int .u32 (s.d : Int), .int .u32 (s.e : Int), .int .u32 (s.f : Int), .int .u32 (s.g : Int), .int .u32 (s.h : Int)] 36) = w1 := ⟨_, rfl⟩
  have z1 : w1.heap.size = w.heap.size + 1 := by rw [← hw1]; simp
  have a1 : Arr .u32 36 w1 w.heap.size s.list := by rw [← hw1]; exact Arr.new w _ _ rfl
  have b1 : Below w.heap.size w w1 := by rw [← hw1]; exact (Below.refl _ _).alloc (Nat.le_refl _) _
  rw [hw1]
  clear hw1
  obtain ⟨w2, hw2⟩ : ∃ w2, w1.alloc (.cells (b.map fun x : Nat => Value.int .u8 (x : Int)).toArray 42) = w2 := ⟨_, rfl⟩
  have z2 : w2.heap.size = w.heap.size + 1 + 1 := by rw [← hw2]; simp [z1]
  have a2 : Arr .u8 42 w2 (w.heap.size + 1) b := by rw [← hw2, ← z1]; exact Arr.new w1 _ _ rfl
  have a1 : Arr .u32 36 w2 w.heap.size s.list := by rw [← hw2]; exact a1.alloc _
  have b1 : Below w.heap.size w w2 := by rw [← hw2]; exact b1.alloc (by omega) _
  rw [hw2]
  clear hw2
  refine ⟨a1.alloc _, a2.alloc _, ?_, b1.alloc (by omega) _⟩
  rw [← z2]
  exact Arr.new w2 _ _ rfl
set_option maxRecDepth 100000 in
set_option maxHeartbeats 16000000 in
theorem calls_in (A : Option Addr) (n c : Nat) (l : List UInt8) (s : St) (b : List Nat) (z : Int) (tx : ByteArray) (ds : List Nat) (w : World) (hr : BReads w w.heap.size A n l) (hn : n ≤ 3000) (hs : s.fit) (hbl : b.length = 64) (hbb : ∀ x ∈ b, x < 256)
    (hz0 : -9223372036854775808 ≤ z) (hz : z ≤ 1099511627776) (htx : tx.size ≤ 3000) (hdl : ds.length = 32) (hdb : ∀ x ∈ ds, x < 256) :
    Calls Try.prog 6 #[.slice A n c, .agg #[.int .u32 (s.a : Int), .int .u32 (s.b : Int), .int .u32 (s.c : Int), .int .u32 (s.d : Int), .int .u32 (s.e : Int), .int .u32 (s.f : Int), .int .u32 (s.g : Int), .int .u32 (s.h : Int)], .agg (b.map fun x : Nat => Value.int .u8 (x : Int)).toArray, .int .i64 z, .string tx, .agg (ds.map fun x : Nat => Value.int .u8 (x : Int)).toArray] w fun e w' => e = .returned (.bool true) ∧ Below w.heap.size w w' := by
  have HR := Lib.hid hr
  have HFS := Lib.hid hs
  have HBL := Lib.hid hbl
  have HBB := Lib.hid hbb
  have HDL := Lib.hid hdl
  have HDB := Lib.hid hdb
  have d1 : decide ((3000 : Int) < (n : Int)) = false := by simp; omega
  have d2 : decide ((3000 : Int) < (tx.size : Int)) = false := by simp; omega
  have d3 : decide ((1099511627776 : Int) < z) = false := by simp; omega
  have HZ0 := Lib.hid hz0
  have HZ1 := Lib.hid hz
  clear hr hs hbl hbb hdl hdb htx hz0 hz
  have HI9 := Lib.hid (show (Try.prog.info? 29).map (·.size) = some 32 by kernel_rfl)
  have HI8 := Lib.hid (show (Try.prog.info? 36).map (·.size) = some 8 by kernel_rfl)
  have HI64 := Lib.hid (show (Try.prog.info? 42).map (·.size) = some 64 by kernel_rfl)
  have K0 := Lib.hid (DcH.start w s b ds)
  go_enter Try.func6, Try.ntmps6
  go_wp2_with fail
  generalize ((w.alloc (.cells #[.int .u32 (s.a : Int), .int .u32 (s.b : Int), .int .u32 (s.c : Int), .int .u32 (s.d : Int), .int .u32 (s.e : Int), .int .u32 (s.f : Int), .int .u32 (s.g : Int), .int .u32 (s.h : Int)] 36)).alloc (.cells (b.map fun x : Nat => Value.int .u8 (x : Int)).toArray 42)).alloc (.cells (ds.map fun x : Nat => Value.int .u8 (x : Int)).toArray 29) = w0 at *
  refine (lives_v _).mono ?_
  rintro e w1 ⟨rfl, hb1⟩
  have K1 := Lib.hid (K0.out.below hb1)
  clear hb1 K0
  go_wp2_with fail
  refine (parse_all tx _).mono ?_
  obtain ⟨px, hpx⟩ : ∃ px, (pAll tx).1 = px := ⟨_, rfl⟩
  obtain ⟨pe, hpe⟩ : ∃ pe, (pAll tx).2 = pe := ⟨_, rfl⟩
  have HPL := Lib.hid (show px.length = 32 by rw [← hpx]; exact pAll_len tx)
  have HPX := Lib.hid hpx
  have HPE := Lib.hid hpe
  rw [hpx, hpe]
  clear hpx hpe
  rintro e w2 ⟨rfl, hb2⟩
  have K2 := Lib.hid (K1.out.below hb2)
  clear hb2 K1
  have HSP := Lib.hid (show (px.map fun x : Nat => Value.int .u8 (x : Int)).toArray.size = 32 by simp [HPL.out])
  have X0 := Lib.hid (show Arr .u8 29 (w2.alloc (.cells #[Value.int .u8 0, Value.int .u8 0, Value.int .u8 0, Value.int .u8 0, Value.int .u8 0, Value.int .u8 0, Value.int .u8 0, Value.int .u8 0, Value.int .u8 0, Value.int .u8 0, Value.int .u8 0, Value.int .u8 0, Value.int .u8 0, Value.int .u8 0, Value.int .u8 0, Value.int .u8 0, Value.int .u8 0, Value.int .u8 0, Value.int .u8 0, Value.int .u8 0, Value.int .u8 0, Value.int .u8 0, Value.int .u8 0, Value.int .u8 0, Value.int .u8 0, Value.int .u8 0, Value.int .u8 0, Value.int .u8 0, Value.int .u8 0, Value.int .u8 0, Value.int .u8 0, Value.int .u8 0] 29)) w2.heap.size (List.replicate 32 0) from Arr.new w2 _ _ rfl)
  have X1 := Lib.hid (setRow_heap _ w2.heap.size _ (px.map fun x : Nat => Value.int .u8 (x : Int)).toArray _ _ X0.out)
  have K3 := Lib.hid (K2.out.below (below_setRow ((Below.refl w2.heap.size w2).alloc (Nat.le_refl _) (.cells #[Value.int .u8 0, Value.int .u8 0, Value.int .u8 0, Value.int .u8 0, Value.int .u8 0, Value.int .u8 0, Value.int .u8 0, Value.int .u8 0, Value.int .u8 0, Value.int .u8 0, Value.int .u8 0, Value.int .u8 0, Value.int .u8 0, Value.int .u8 0, Value.int .u8 0, Value.int .u8 0, Value.int .u8 0, Value.int .u8 0, Value.int .u8 0, Value.int .u8 0, Value.int .u8 0, Value.int .u8 0, Value.int .u8 0, Value.int .u8 0, Value.int .u8 0, Value.int .u8 0, Value.int .u8 0, Value.int .u8 0, Value.int .u8 0, Value.int .u8 0, Value.int .u8 0, Value.int .u8 0] 29)) (Nat.le_refl _) (px.map fun x : Nat => Value.int .u8 (x : Int)).toArray))
  go_wp2_with (first
    | (refine wpList_store_row rfl 29 (.tmp 13) (.tmp 34) rfl w2.heap.size (px.map fun x : Nat => Value.int .u8 (x : Int)).toArray rfl rfl 29 _ X0.out (HI9.out.trans (by rw [HSP.out])) (by rw [HSP.out]; rfl) (by simp [Value.oneCell']) ?_)
    | fail)
  clear X0 K2
  generalize (w2.alloc (.cells #[Value.int .u8 0, Value.int .u8 0, Value.int .u8 0, Value.int .u8 0, Value.int .u8 0, Value.int .u8 0, Value.int .u8 0, Value.int .u8 0, Value.int .u8 0, Value.int .u8 0, Value.int .u8 0, Value.int .u8 0, Value.int .u8 0, Value.int .u8 0, Value.int .u8 0, Value.int .u8 0, Value.int .u8 0, Value.int .u8 0, Value.int .u8 0, Value.int .u8 0, Value.int .u8 0, Value.int .u8 0, Value.int .u8 0, Value.int .u8 0, Value.int .u8 0, Value.int .u8 0, Value.int .u8 0, Value.int .u8 0, Value.int .u8 0, Value.int .u8 0, Value.int .u8 0, Value.int .u8 0] 29)).setRow w2.heap.size (px.map fun x : Nat => Value.int .u8 (x : Int)).toArray = w3 at *
  generalize w2.heap.size = g13 at *
  refine (rparse_all tx _).mono ?_
  rw [HPX.out, HPE.out]
  rintro e w4 ⟨rfl, hb4⟩
  have K4 := Lib.hid (K3.out.below hb4)
  have X2 := Lib.hid (show Arr .u8 29 w4 g13 px from (hb4.block g13 (Array.getElem?_eq_some_iff.1 X1.out).1).trans X1.out)
  clear hb4 K3 X1
  have Y0 := Lib.hid (show Arr .u8 29 (w4.alloc (.cells #[Value.int .u8 0, Value.int .u8 0, Value.int .u8 0, Value.int .u8 0, Value.int .u8 0, Value.int .u8 0, Value.int .u8 0, Value.int .u8 0, Value.int .u8 0, Value.int .u8 0, Value.int .u8 0, Value.int .u8 0, Value.int .u8 0, Value.int .u8 0, Value.int .u8 0, Value.int .u8 0, Value.int .u8 0, Value.int .u8 0, Value.int .u8 0, Value.int .u8 0, Value.int .u8 0, Value.int .u8 0, Value.int .u8 0, Value.int .u8 0, Value.int .u8 0, Value.int .u8 0, Value.int .u8 0, Value.int .u8 0, Value.int .u8 0, Value.int .u8 0, Value.int .u8 0, Value.int .u8 0] 29)) w4.heap.size (List.replicate 32 0) from Arr.new w4 _ _ rfl)
  have Y1 := Lib.hid (setRow_heap _ w4.heap.size _ (px.map fun x : Nat => Value.int .u8 (x : Int)).toArray _ _ Y0.out)
  have BY := Lib.hid (below_setRow ((Below.refl w4.heap.size w4).alloc (Nat.le_refl _) (.cells #[Value.int .u8 0, Value.int .u8 0, Value.int .u8 0, Value.int .u8 0, Value.int .u8 0, Value.int .u8 0, Value.int .u8 0, Value.int .u8 0, Value.int .u8 0, Value.int .u8 0, Value.int .u8 0, Value.int .u8 0, Value.int .u8 0, Value.int .u8 0, Value.int .u8 0, Value.int .u8 0, Value.int .u8 0, Value.int .u8 0, Value.int .u8 0, Value.int .u8 0, Value.int .u8 0, Value.int .u8 0, Value.int .u8 0, Value.int .u8 0, Value.int .u8 0, Value.int .u8 0, Value.int .u8 0, Value.int .u8 0, Value.int .u8 0, Value.int .u8 0, Value.int .u8 0, Value.int .u8 0] 29)) (Nat.le_refl _) (px.map fun x : Nat => Value.int .u8 (x : Int)).toArray)
  have K5 := Lib.hid (K4.out.below BY.out)
  have X3 := Lib.hid (X2.out.below BY.out)
  clear K4 X2 BY
  go_wp2_with (first
    | (refine wpList_store_row rfl 29 (.tmp 15) (.tmp 39) rfl w4.heap.size (px.map fun x : Nat => Value.int .u8 (x : Int)).toArray rfl rfl 29 _ Y0.out (HI9.out.trans (by rw [HSP.out])) (by rw [HSP.out]; rfl) (by simp [Value.oneCell']) ?_
       clear Y0
       generalize (w4.alloc (.cells #[Value.int .u8 0, Value.int .u8 0, Value.int .u8 0, Value.int .u8 0, Value.int .u8 0, Value.int .u8 0, Value.int .u8 0, Value.int .u8 0, Value.int .u8 0, Value.int .u8 0, Value.int .u8 0, Value.int .u8 0, Value.int .u8 0, Value.int .u8 0, Value.int .u8 0, Value.int .u8 0, Value.int .u8 0, Value.int .u8 0, Value.int .u8 0, Value.int .u8 0, Value.int .u8 0, Value.int .u8 0, Value.int .u8 0, Value.int .u8 0, Value.int .u8 0, Value.int .u8 0, Value.int .u8 0, Value.int .u8 0, Value.int .u8 0, Value.int .u8 0, Value.int .u8 0, Value.int .u8 0] 29)).setRow w4.heap.size (px.map fun x : Nat => Value.int .u8 (x : Int)).toArray = w5 at *)
    | fail)
  generalize w4.heap.size = g15 at *
  have I0 := Lib.hid (show DcI w s b ds px g13 g15 A n l w5 from ⟨K5.out.h7, K5.out.h8, K5.out.h11, X3.out, Y1.out, K5.out.hb, Reads.below HR.out K5.out.hb⟩)
  clear K5 X3 Y1
  refine wp_region_tree (SK.one 0 false <| .one 3 false <| .one 1 true <| .one 2 true <| .one 4 true <| .one 5 false <| .one 6 false <| .one 7 false <| .one 8 false <| .one 10 false <| .one 11 false <| .one 9 true <| .one 12 true <| .one 13 false <| .one 14 false <| .one 15 false <| .one 16 false <| .one 19 false <| .one 17 true <| .one 18 false <| .one 20 true <| .one 21 false <| .one 22 false <| .one 23 false <| .one 24 false <| .one 25 false <| .one 27 false <| .one 26 true <| .one 28 true <| .one 29 false <| .one 30 false <| .one 31 false <| .one 32 false <| .one 33 false <| .one 34 false <| .one 35 false <| .one 36 false <| .one 37 false <| .one 38 false <| .one 39 false <| .one 40 false <| .one 41 false <| .one 42 true <| .one 43 true <| .one 44 false <| .one 45 false <| .one 46 false <| .one 47 true <| .one 48 true <| .one 49 false <| .one 50 false <| .one 51 false .done) (fun V => DcI w s b ds px g13 g15 A n l V) (by kernel_rfl) (by kernel_rfl) (by kernel_rfl) (by kernel_rfl) ?_
  have hS := I0.out.drew
  clear I0
  generalize w5.drew = V0 at *
  ((first | (refine TR.val2 (v := ?_) _ (by simp only [List.getElem?_toArray, List.getElem?_cons_zero]; rfl) ?_ ?_ ?_ ?_ ?_; rotate_left; (focus rfl); (focus (intro W hSW; (try dsimp only at hSW); go_simp; (try with_reducible rfl); done)); (focus exact fun _ _ _ h => h); (focus assumption)) | (refine TR.skip _ (by simp only [List.getElem?_toArray, List.getElem?_cons_zero]; rfl) ?_ ?_ ?_ ?_; (focus rfl); (focus exact fun _ _ _ h => h); (focus assumption))); simp only [Act.put, List.setIfInBounds_toArray, List.set_cons_zero, List.set_cons_succ])
  iterate 1 ((first | (refine TR.val2 (v := ?_) _ (by simp only [List.getElem?_toArray, List.getElem?_cons_succ, List.getElem?_cons_zero]; rfl) ?_ ?_ ?_ ?_ ?_; rotate_left; (focus rfl); (focus (intro W hSW; (try dsimp only at hSW); go_simp; (try with_reducible rfl); done)); (focus exact fun _ _ _ h => h); (focus assumption)) | (refine TR.skip _ (by simp only [List.getElem?_toArray, List.getElem?_cons_succ, List.getElem?_cons_zero]; rfl) ?_ ?_ ?_ ?_; (focus rfl); (focus exact fun _ _ _ h => h); (focus assumption))); simp only [Act.put, List.setIfInBounds_toArray, List.set_cons_zero, List.set_cons_succ])
  refine TR.eff _ (by simp only [List.getElem?_toArray, List.getElem?_cons_succ, List.getElem?_cons_zero]; rfl) (by rfl) (fun K hK => ?_); go_simp
  refine (own_any w.heap.size A n c l V0 hS.hr hS.hb.size (by omega)).mono ?_
  rintro e V1 ⟨A1, c1, rfl, ho1, hb⟩
  have hS := hS.below hb
  have R1 := Lib.hid ho1.reads
  clear ho1 hb
  refine hK.out _ _ hS ?_
  clear hK
  (try simp only [Act.put, List.setIfInBounds_toArray, List.set_cons_zero, List.set_cons_succ])
  have OF := of_v A1 n c1 l V1 R1.out (by omega)
  have RO := fun V h => rof_v A n c l V h (by omega)
  obtain ⟨dq, hdq⟩ : ∃ dq, sha (l.map UInt8.toNat) = dq := ⟨_, rfl⟩
  have heq1 := eq_dig dq (by rw [← hdq]; rfl)
  rw [hdq] at OF RO
  have HOF := Lib.hid OF
  have HRO := Lib.hid RO
  clear OF RO hdq
  refine TR.eff _ (by simp only [List.getElem?_toArray, List.getElem?_cons_succ, List.getElem?_cons_zero]; rfl) (by rfl) (fun K hK => ?_); go_simp
  refine (HOF.out).mono ?_
  rintro e V2 ⟨rfl, hb⟩
  have hS := hS.below hb
  clear hb
  refine hK.out _ _ hS ?_
  clear hK
  (try simp only [Act.put, List.setIfInBounds_toArray, List.set_cons_zero, List.set_cons_succ])
  refine TR.eff _ (by simp only [List.getElem?_toArray, List.getElem?_cons_succ, List.getElem?_cons_zero]; rfl) (by rfl) (fun K hK => ?_); go_simp
  refine (HRO.out V2 (Reads.more hS.hr hS.hb.size)).mono ?_
  rintro e V3 ⟨rfl, hb⟩
  have hS := hS.below hb
  clear hb
  refine hK.out _ _ hS ?_
  clear hK
  (try simp only [Act.put, List.setIfInBounds_toArray, List.set_cons_zero, List.set_cons_succ])
  iterate 2 ((first | (refine TR.val2 (v := ?_) _ (by simp only [List.getElem?_toArray, List.getElem?_cons_succ, List.getElem?_cons_zero]; rfl) ?_ ?_ ?_ ?_ ?_; rotate_left; (focus rfl); (focus (intro W hSW; (try dsimp only at hSW); go_simp; (try with_reducible rfl); done)); (focus exact fun _ _ _ h => h); (focus assumption)) | (refine TR.skip _ (by simp only [List.getElem?_toArray, List.getElem?_cons_succ, List.getElem?_cons_zero]; rfl) ?_ ?_ ?_ ?_; (focus rfl); (focus exact fun _ _ _ h => h); (focus assumption))); simp only [Act.put, List.setIfInBounds_toArray, List.set_cons_zero, List.set_cons_succ])
  refine TR.val2 (v := .agg #[.int .u32 (s.a : Int), .int .u32 (s.b : Int), .int .u32 (s.c : Int), .int .u32 (s.d : Int), .int .u32 (s.e : Int), .int .u32 (s.f : Int), .int .u32 (s.g : Int), .int .u32 (s.h : Int)]) _ (by simp only [List.getElem?_toArray, List.getElem?_cons_succ, List.getElem?_cons_zero]; rfl) ?_ ?_ ?_ ?_ ?_
  (focus rfl)
  (focus exact fun V hV => exec_load_row 36 (.tmp 7) rfl w.heap.size rfl 36 _ (0, 0) _ hV.h7 Try.underlying36 rfl HI8.out)
  (focus exact fun _ _ _ h => h)
  (focus exact hS)
  simp only [Act.put, List.setIfInBounds_toArray, List.set_cons_zero, List.set_cons_succ]
  refine TR.val2 (v := .agg (b.map fun x : Nat => Value.int .u8 (x : Int)).toArray) _ (by simp only [List.getElem?_toArray, List.getElem?_cons_succ, List.getElem?_cons_zero]; rfl) ?_ ?_ ?_ ?_ ?_
  (focus rfl)
  (focus exact fun V hV => exec_load_row 42 (.tmp 8) rfl (w.heap.size + 1) rfl 42 _ (0, 0) _ hV.h8 Try.underlying42 rfl (HI64.out.trans (by simp [HBL.out])))
  (focus exact fun _ _ _ h => h)
  (focus exact hS)
  simp only [Act.put, List.setIfInBounds_toArray, List.set_cons_zero, List.set_cons_succ]
  refine TR.val2 (v := .agg #[.int .u32 (s.a : Int), .int .u32 (s.b : Int), .int .u32 (s.c : Int), .int .u32 (s.d : Int), .int .u32 (s.e : Int), .int .u32 (s.f : Int), .int .u32 (s.g : Int), .int .u32 (s.h : Int)]) _ (by simp only [List.getElem?_toArray, List.getElem?_cons_succ, List.getElem?_cons_zero]; rfl) ?_ ?_ ?_ ?_ ?_
  (focus rfl)
  (focus exact fun V hV => exec_load_row 36 (.tmp 7) rfl w.heap.size rfl 36 _ (0, 0) _ hV.h7 Try.underlying36 rfl HI8.out)
  (focus exact fun _ _ _ h => h)
  (focus exact hS)
  simp only [Act.put, List.setIfInBounds_toArray, List.set_cons_zero, List.set_cons_succ]
  refine TR.val2 (v := .agg (b.map fun x : Nat => Value.int .u8 (x : Int)).toArray) _ (by simp only [List.getElem?_toArray, List.getElem?_cons_succ, List.getElem?_cons_zero]; rfl) ?_ ?_ ?_ ?_ ?_
  (focus rfl)
  (focus exact fun V hV => exec_load_row 42 (.tmp 8) rfl (w.heap.size + 1) rfl 42 _ (0, 0) _ hV.h8 Try.underlying42 rfl (HI64.out.trans (by simp [HBL.out])))
  (focus exact fun _ _ _ h => h)
  (focus exact hS)
  simp only [Act.put, List.setIfInBounds_toArray, List.set_cons_zero, List.set_cons_succ]
  have BV := fun V => block17_v s b V HFS.out HBL.out HBB.out
  have RBV := fun V => rblock23_v s b V HFS.out HBL.out HBB.out
  obtain ⟨q, hq⟩ : ∃ q, blockP K64 s b = q := ⟨_, rfl⟩
  rw [hq] at BV RBV
  have HBV := Lib.hid BV
  have HRB := Lib.hid RBV
  have heq2 := eq_w8 q.list rfl
  clear BV RBV hq
  refine TR.eff _ (by simp only [List.getElem?_toArray, List.getElem?_cons_succ, List.getElem?_cons_zero]; rfl) (by rfl) (fun K hK => ?_); go_simp
  refine (HBV.out V3).mono ?_
  rintro e V4 ⟨rfl, hb⟩
  have hS := hS.below hb
  clear hb
  refine hK.out _ _ hS ?_
  clear hK
  (try simp only [Act.put, List.setIfInBounds_toArray, List.set_cons_zero, List.set_cons_succ])
  refine TR.eff _ (by simp only [List.getElem?_toArray, List.getElem?_cons_succ, List.getElem?_cons_zero]; rfl) (by rfl) (fun K hK => ?_); go_simp
  refine (HRB.out V4).mono ?_
  rintro e V5 ⟨rfl, hb⟩
  have hS := hS.below hb
  clear hb
  refine hK.out _ _ hS ?_
  clear hK
  (try simp only [Act.put, List.setIfInBounds_toArray, List.set_cons_zero, List.set_cons_succ])
  iterate 5 ((first | (refine TR.val2 (v := ?_) _ (by simp only [List.getElem?_toArray, List.getElem?_cons_succ, List.getElem?_cons_zero]; rfl) ?_ ?_ ?_ ?_ ?_; rotate_left; (focus rfl); (focus (intro W hSW; (try dsimp only at hSW); go_simp; (try with_reducible rfl); done)); (focus exact fun _ _ _ h => h); (focus assumption)) | (refine TR.skip _ (by simp only [List.getElem?_toArray, List.getElem?_cons_succ, List.getElem?_cons_zero]; rfl) ?_ ?_ ?_ ?_; (focus rfl); (focus exact fun _ _ _ h => h); (focus assumption))); simp only [Act.put, List.setIfInBounds_toArray, List.set_cons_zero, List.set_cons_succ])
  have PV := fun V => pad_v z V HZ0.out (by have := HZ1.out; omega)
  have RPV := fun V => rpad_v z V HZ0.out (by have := HZ1.out; omega)
  obtain ⟨L1, hL1⟩ : ∃ L1, toB (padL z.toNat) = L1 := ⟨_, rfl⟩
  obtain ⟨m, hm⟩ : ∃ m, (padL z.toNat).length = m := ⟨_, rfl⟩
  rw [hL1, hm] at PV RPV
  have HPV := Lib.hid PV
  have HRP := Lib.hid RPV
  clear PV RPV hL1 hm
  refine TR.eff _ (by simp only [List.getElem?_toArray, List.getElem?_cons_succ, List.getElem?_cons_zero]; rfl) (by rfl) (fun K hK => ?_); go_simp
  refine (HPV.out V5).mono ?_
  rintro e V6 ⟨A6, c6, rfl, ho, hb⟩
  have hS := hS.below hb
  have R6 := Lib.hid ho.reads
  clear ho hb
  refine hK.out _ _ hS ?_
  clear hK
  (try simp only [Act.put, List.setIfInBounds_toArray, List.set_cons_zero, List.set_cons_succ])
  refine TR.now (fun V => DcI w s b ds px g13 g15 A n l V ∧ BReads V V6.heap.size A6 m L1) (fun _ h => h.1) ?_
  have hS0 := hS
  have hS := And.intro hS0 R6.out
  clear hS0 R6
  refine TR.val2 (v := .string ⟨L1.toArray⟩) _ (by simp only [List.getElem?_toArray, List.getElem?_cons_succ, List.getElem?_cons_zero]; rfl) ?_ ?_ ?_ ?_ ?_
  (focus rfl)
  (focus (intro W hSW; have hst := run_str (c := c6) hSW.2; go_simp; (try with_reducible rfl); done))
  (focus exact fun _ _ _ h => h)
  (focus exact hS)
  simp only [Act.put, List.setIfInBounds_toArray, List.set_cons_zero, List.set_cons_succ]
  refine TR.eff _ (by simp only [List.getElem?_toArray, List.getElem?_cons_succ, List.getElem?_cons_zero]; rfl) (by rfl) (fun K hK => ?_); go_simp
  refine (HRP.out V6).mono ?_
  rintro e V7 ⟨A7, c7, rfl, ho, hb⟩
  have R7 := Lib.hid ho.reads
  have hS := And.intro (hS.1.below hb) (Reads.below hS.2 hb)
  have Z67 := Lib.hid hb.size
  clear ho hb
  refine hK.out _ _ hS ?_
  clear hK
  (try simp only [Act.put, List.setIfInBounds_toArray, List.set_cons_zero, List.set_cons_succ])
  refine TR.now (fun V => (DcI w s b ds px g13 g15 A n l V ∧ BReads V V6.heap.size A6 m L1) ∧ BReads V V7.heap.size A7 m L1) (fun _ h => h.1) ?_
  have hS0 := hS
  have hS := And.intro hS0 R7.out
  clear hS0 R7
  refine TR.val2 (v := .string ⟨L1.toArray⟩) _ (by simp only [List.getElem?_toArray, List.getElem?_cons_succ, List.getElem?_cons_zero]; rfl) ?_ ?_ ?_ ?_ ?_
  (focus rfl)
  (focus (intro W hSW; have hst := run_str (c := c7) hSW.2; go_simp; (try with_reducible rfl); done))
  (focus exact fun _ _ _ h => h)
  (focus exact hS)
  simp only [Act.put, List.setIfInBounds_toArray, List.set_cons_zero, List.set_cons_succ]
  iterate 3 ((first | (refine TR.val2 (v := ?_) _ (by simp only [List.getElem?_toArray, List.getElem?_cons_succ, List.getElem?_cons_zero]; rfl) ?_ ?_ ?_ ?_ ?_; rotate_left; (focus rfl); (focus (intro W hSW; (try dsimp only at hSW); go_simp; (try with_reducible rfl); done)); (focus exact fun _ _ _ h => h); (focus assumption)) | (refine TR.skip _ (by simp only [List.getElem?_toArray, List.getElem?_cons_succ, List.getElem?_cons_zero]; rfl) ?_ ?_ ?_ ?_; (focus rfl); (focus exact fun _ _ _ h => h); (focus assumption))); simp only [Act.put, List.setIfInBounds_toArray, List.set_cons_zero, List.set_cons_succ])
  refine TR.val2 (v := .agg (ds.map fun x : Nat => Value.int .u8 (x : Int)).toArray) _ (by simp only [List.getElem?_toArray, List.getElem?_cons_succ, List.getElem?_cons_zero]; rfl) ?_ ?_ ?_ ?_ ?_
  (focus rfl)
  (focus exact fun V hV => exec_load_row 29 (.tmp 11) rfl (w.heap.size + 1 + 1) rfl 29 _ (0, 0) _ hV.1.1.h11 Try.underlying29 rfl (HI9.out.trans (by simp [HDL.out])))
  (focus exact fun _ _ _ h => h)
  (focus exact hS)
  simp only [Act.put, List.setIfInBounds_toArray, List.set_cons_zero, List.set_cons_succ]
  refine TR.val2 (v := .agg (ds.map fun x : Nat => Value.int .u8 (x : Int)).toArray) _ (by simp only [List.getElem?_toArray, List.getElem?_cons_succ, List.getElem?_cons_zero]; rfl) ?_ ?_ ?_ ?_ ?_
  (focus rfl)
  (focus exact fun V hV => exec_load_row 29 (.tmp 11) rfl (w.heap.size + 1 + 1) rfl 29 _ (0, 0) _ hV.1.1.h11 Try.underlying29 rfl (HI9.out.trans (by simp [HDL.out])))
  (focus exact fun _ _ _ h => h)
  (focus exact hS)
  simp only [Act.put, List.setIfInBounds_toArray, List.set_cons_zero, List.set_cons_succ]
  have TV := fun V => text_v ds V HDL.out HDB.out
  have RTV := fun V => rtext_v ds V HDL.out HDB.out
  obtain ⟨TX, hTX⟩ : ∃ TX, (hexL ds).toArray = TX := ⟨_, rfl⟩
  rw [hTX] at TV RTV
  have HTV := Lib.hid TV
  have HRT := Lib.hid RTV
  clear TV RTV hTX
  refine TR.eff _ (by simp only [List.getElem?_toArray, List.getElem?_cons_succ, List.getElem?_cons_zero]; rfl) (by rfl) (fun K hK => ?_); go_simp
  refine (HTV.out V7).mono ?_
  rintro e V8 ⟨rfl, hb⟩
  have Z78 := Lib.hid hb.size
  have hS := And.intro (And.intro (hS.1.1.below hb) (Reads.below hS.1.2 (hb.mono Z67.out))) (Reads.below hS.2 (hb.mono (Nat.le_refl _)))
  clear hb
  refine hK.out _ _ hS ?_
  clear hK
  (try simp only [Act.put, List.setIfInBounds_toArray, List.set_cons_zero, List.set_cons_succ])
  refine TR.eff _ (by simp only [List.getElem?_toArray, List.getElem?_cons_succ, List.getElem?_cons_zero]; rfl) (by rfl) (fun K hK => ?_); go_simp
  refine (HRT.out V8).mono ?_
  rintro e V9 ⟨rfl, hb⟩
  have Z89 := Lib.hid hb.size
  have hS := And.intro (And.intro (hS.1.1.below hb) (Reads.below hS.1.2 (hb.mono (Nat.le_trans Z67.out Z78.out)))) (Reads.below hS.2 (hb.mono Z78.out))
  clear hb
  refine hK.out _ _ hS ?_
  clear hK
  (try simp only [Act.put, List.setIfInBounds_toArray, List.set_cons_zero, List.set_cons_succ])
  iterate 3 ((first | (refine TR.val2 (v := ?_) _ (by simp only [List.getElem?_toArray, List.getElem?_cons_succ, List.getElem?_cons_zero]; rfl) ?_ ?_ ?_ ?_ ?_; rotate_left; (focus rfl); (focus (intro W hSW; (try dsimp only at hSW); go_simp; (try with_reducible rfl); done)); (focus exact fun _ _ _ h => h); (focus assumption)) | (refine TR.skip _ (by simp only [List.getElem?_toArray, List.getElem?_cons_succ, List.getElem?_cons_zero]; rfl) ?_ ?_ ?_ ?_; (focus rfl); (focus exact fun _ _ _ h => h); (focus assumption))); simp only [Act.put, List.setIfInBounds_toArray, List.set_cons_zero, List.set_cons_succ])
  refine TR.val2 (v := .agg (px.map fun x : Nat => Value.int .u8 (x : Int)).toArray) _ (by simp only [List.getElem?_toArray, List.getElem?_cons_succ, List.getElem?_cons_zero]; rfl) ?_ ?_ ?_ ?_ ?_
  (focus rfl)
  (focus exact fun V hV => exec_load_row 29 (.tmp 13) rfl g13 rfl 29 _ (0, 0) _ hV.1.1.h13 Try.underlying29 rfl (HI9.out.trans (by rw [HSP.out])))
  (focus exact fun _ _ _ h => h)
  (focus exact hS)
  simp only [Act.put, List.setIfInBounds_toArray, List.set_cons_zero, List.set_cons_succ]
  refine TR.val2 (v := .agg (px.map fun x : Nat => Value.int .u8 (x : Int)).toArray) _ (by simp only [List.getElem?_toArray, List.getElem?_cons_succ, List.getElem?_cons_zero]; rfl) ?_ ?_ ?_ ?_ ?_
  (focus rfl)
  (focus exact fun V hV => exec_load_row 29 (.tmp 15) rfl g15 rfl 29 _ (0, 0) _ hV.1.1.h15 Try.underlying29 rfl (HI9.out.trans (by rw [HSP.out])))
  (focus exact fun _ _ _ h => h)
  (focus exact hS)
  simp only [Act.put, List.setIfInBounds_toArray, List.set_cons_zero, List.set_cons_succ]
  have heq3 := eq_dig px HPL.out
  iterate 8 ((first | (refine TR.val2 (v := ?_) _ (by simp only [List.getElem?_toArray, List.getElem?_cons_succ, List.getElem?_cons_zero]; rfl) ?_ ?_ ?_ ?_ ?_; rotate_left; (focus rfl); (focus (intro W hSW; (try dsimp only at hSW); go_simp; (try with_reducible rfl); done)); (focus exact fun _ _ _ h => h); (focus assumption)) | (refine TR.skip _ (by simp only [List.getElem?_toArray, List.getElem?_cons_succ, List.getElem?_cons_zero]; rfl) ?_ ?_ ?_ ?_; (focus rfl); (focus exact fun _ _ _ h => h); (focus assumption))); simp only [Act.put, List.setIfInBounds_toArray, List.set_cons_zero, List.set_cons_succ])
  have CV := fun V => const_v V
  have RCV := fun V => rconst_v V
  obtain ⟨KK, hKK⟩ : ∃ KK, K64 = KK := ⟨_, rfl⟩
  have heq4 := eq_w64 KK (by rw [← hKK]; exact len_K64)
  rw [hKK] at CV RCV
  have HCV := Lib.hid CV
  have HRC := Lib.hid RCV
  clear CV RCV hKK
  refine TR.eff _ (by simp only [List.getElem?_toArray, List.getElem?_cons_succ, List.getElem?_cons_zero]; rfl) (by rfl) (fun K hK => ?_); go_simp
  refine (HCV.out V9).mono ?_
  rintro e Va ⟨rfl, hb⟩
  have Z9a := Lib.hid hb.size
  have hS := And.intro (And.intro (hS.1.1.below hb) (Reads.below hS.1.2 (hb.mono (Nat.le_trans Z67.out (Nat.le_trans Z78.out Z89.out))))) (Reads.below hS.2 (hb.mono (Nat.le_trans Z78.out Z89.out)))
  clear hb
  refine hK.out _ _ hS ?_
  clear hK
  (try simp only [Act.put, List.setIfInBounds_toArray, List.set_cons_zero, List.set_cons_succ])
  refine TR.eff _ (by simp only [List.getElem?_toArray, List.getElem?_cons_succ, List.getElem?_cons_zero]; rfl) (by rfl) (fun K hK => ?_); go_simp
  refine (HRC.out Va).mono ?_
  rintro e Vb ⟨rfl, hb⟩
  have Zab := Lib.hid hb.size
  have hS := And.intro (And.intro (hS.1.1.below hb) (Reads.below hS.1.2 (hb.mono (Nat.le_trans Z67.out (Nat.le_trans Z78.out (Nat.le_trans Z89.out Z9a.out)))))) (Reads.below hS.2 (hb.mono (Nat.le_trans Z78.out (Nat.le_trans Z89.out Z9a.out))))
  clear hb
  refine hK.out _ _ hS ?_
  clear hK
  (try simp only [Act.put, List.setIfInBounds_toArray, List.set_cons_zero, List.set_cons_succ])
  iterate 3 ((first | (refine TR.val2 (v := ?_) _ (by simp only [List.getElem?_toArray, List.getElem?_cons_succ, List.getElem?_cons_zero]; rfl) ?_ ?_ ?_ ?_ ?_; rotate_left; (focus rfl); (focus (intro W hSW; (try dsimp only at hSW); go_simp; (try with_reducible rfl); done)); (focus exact fun _ _ _ h => h); (focus assumption)) | (refine TR.skip _ (by simp only [List.getElem?_toArray, List.getElem?_cons_succ, List.getElem?_cons_zero]; rfl) ?_ ?_ ?_ ?_; (focus rfl); (focus exact fun _ _ _ h => h); (focus assumption))); simp only [Act.put, List.setIfInBounds_toArray, List.set_cons_zero, List.set_cons_succ])
  have heq5 := eq_w8 st8.list rfl
  have HBE := Lib.hid (fun V => begin_v' V)
  have HRBE := Lib.hid (fun V => rbegi_v' V)
  refine TR.eff _ (by simp only [List.getElem?_toArray, List.getElem?_cons_succ, List.getElem?_cons_zero]; rfl) (by rfl) (fun K hK => ?_); go_simp
  refine (HBE.out Vb).mono ?_
  rintro e Vc ⟨rfl, hb⟩
  have Zbc := Lib.hid hb.size
  have hS := And.intro (And.intro (hS.1.1.below hb) (Reads.below hS.1.2 (hb.mono (Nat.le_trans Z67.out (Nat.le_trans Z78.out (Nat.le_trans Z89.out (Nat.le_trans Z9a.out Zab.out))))))) (Reads.below hS.2 (hb.mono (Nat.le_trans Z78.out (Nat.le_trans Z89.out (Nat.le_trans Z9a.out Zab.out)))))
  clear hb
  refine hK.out _ _ hS ?_
  clear hK
  (try simp only [Act.put, List.setIfInBounds_toArray, List.set_cons_zero, List.set_cons_succ])
  refine TR.eff _ (by simp only [List.getElem?_toArray, List.getElem?_cons_succ, List.getElem?_cons_zero]; rfl) (by rfl) (fun K hK => ?_); go_simp
  refine (HRBE.out Vc).mono ?_
  rintro e Vd ⟨rfl, hb⟩
  have hS := And.intro (And.intro (hS.1.1.below hb) (Reads.below hS.1.2 (hb.mono (Nat.le_trans Z67.out (Nat.le_trans Z78.out (Nat.le_trans Z89.out (Nat.le_trans Z9a.out (Nat.le_trans Zab.out Zbc.out)))))))) (Reads.below hS.2 (hb.mono (Nat.le_trans Z78.out (Nat.le_trans Z89.out (Nat.le_trans Z9a.out (Nat.le_trans Zab.out Zbc.out))))))
  clear hb
  refine hK.out _ _ hS ?_
  clear hK
  (try simp only [Act.put, List.setIfInBounds_toArray, List.set_cons_zero, List.set_cons_succ])
  iterate 3 ((first | (refine TR.val2 (v := ?_) _ (by simp only [List.getElem?_toArray, List.getElem?_cons_succ, List.getElem?_cons_zero]; rfl) ?_ ?_ ?_ ?_ ?_; rotate_left; (focus rfl); (focus (intro W hSW; (try dsimp only at hSW); go_simp; (try with_reducible rfl); done)); (focus exact fun _ _ _ h => h); (focus assumption)) | (refine TR.skip _ (by simp only [List.getElem?_toArray, List.getElem?_cons_succ, List.getElem?_cons_zero]; rfl) ?_ ?_ ?_ ?_; (focus rfl); (focus exact fun _ _ _ h => h); (focus assumption))); simp only [Act.put, List.setIfInBounds_toArray, List.set_cons_zero, List.set_cons_succ])
  refine TR.done ?_
  go_wp2
  go_ret
  exact ⟨rfl, hS.1.1.hb⟩
end Go.Proofs.Ytlbiinkidecfbaa
