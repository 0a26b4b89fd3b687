/-
  Digests: the chapter's examples; a hash.
-/
import Derived.Test.YtlbiinkidecfbaaShaK
namespace Go.Proofs.Ytlbiinkidecfbaa
open Go.RowKit
open Go.Lib (bytesWorld)
theorem bsize' (p : ByteArray) : p.data.toList.length = p.size := Array.length_toList
theorem BReads.bytes' (w : World) (p : ByteArray) : BReads (bytesWorld w 5 p) (w.heap.size + 1) (some ⟨w.heap.size, 0, none⟩) p.size p.data.toList := by
  refine ⟨by rw [List.length_map, bsize', Nat.mul_one], fun _ => ⟨_, rfl, Nat.lt_succ_self _, fun j u hu => ?_⟩⟩
  have hj : j < p.size := by
    have := (List.getElem?_eq_some_iff.1 hu).1
    rwa [List.length_map, bsize'] at this
  have hj2 : j < p.data.toList.length := by rw [bsize']; exact hj
  rw [add_head, Lib.bytesWorld_cell w _ p j hj, ← hu, List.getElem?_map, List.getElem?_eq_getElem hj2, List.getD_eq_getElem?_getD, List.getElem?_eq_getElem hj2]
  rfl
theorem conv_bytes' (p : ByteArray) (w : World) : ∃ c w', (convert 9 22 (.string p)).run Try.prog w = .ok (.slice (some ⟨w.heap.size, 0, none⟩) p.size c) w' ∧
    BReads w' w'.heap.size (some ⟨w.heap.size, 0, none⟩) p.size p.data.toList ∧ Below w.heap.size w w' :=
  ⟨_, _, Lib.run_convert_string_bytes (P := Try.prog) w 9 22 5 p Try.underlying9 Try.underlying22 Try.underlying5, Reads.more (BReads.bytes' w p) (by rw [Lib.bytesWorld_size]; exact Nat.le_refl _),
    ⟨rfl, rfl, rfl, by rw [Lib.bytesWorld_size]; omega, fun k hk => Lib.bytesWorld_at_old w _ p k hk⟩⟩
theorem sha_len (l : List Nat) : (sha l).length = 32 := rfl
theorem be8_lt (x : Nat) : ∀ y ∈ be8 x, y < 256 := by
  intro y hy
  simp only [be8, List.mem_cons, List.not_mem_nil, or_false] at hy
  omega
theorem sha_lt (l : List Nat) : ∀ x ∈ sha l, x < 256 := by
  intro x hx
  obtain ⟨y, _, hy⟩ := List.mem_flatMap.1 hx
  exact be8_lt y x hy
set_option maxHeartbeats 1000000 in
theorem told_v (s q : ByteArray) (w : World) (hs : s.size ≤ 1000) (b : Bool) (hb : (hexL (sha (s.data.toList.map UInt8.toNat)) == q.data.toList) = b) :
    Calls Try.prog 29 #[.string s, .string q] w fun e w' => e = .returned (.bool b) ∧ Below w.heap.size w w' := by
  have HB := Lib.hid hb
  clear hb
  obtain ⟨c3, w3, hcv, hr3, hb3⟩ := conv_bytes' s w
  go_enter Try.func29, Try.ntmps29
  go_wp2_with fail
  refine (of_v _ _ _ _ _ hr3 (by omega)).mono ?_
  rintro e w1 ⟨rfl, hb1⟩
  have B1 := Lib.hid (hb3.trans (hb1.mono hb3.size))
  clear hcv hr3 hb1 hb3
  go_wp2_with fail
  refine (text_v _ _ (sha_len _) (sha_lt _)).mono ?_
  rintro e w2 ⟨rfl, hb2⟩
  have B2 := Lib.hid (B1.out.trans (hb2.mono B1.out.size))
  clear B1 hb2
  go_wp2
  go_ret
  exact ⟨by show Ending.returned (Value.bool (_ == q.toList)) = _; rw [ByteArray.toList_eq, HB.out], B2.out⟩
set_option maxRecDepth 100000 in
theorem hex_nil : (hexL (sha ((⟨#[]⟩ : ByteArray).data.toList.map UInt8.toNat)) == (⟨#[101, 51, 98, 48, 99, 52, 52, 50, 57, 56, 102, 99, 49, 99, 49, 52, 57, 97, 102, 98, 102, 52, 99, 56, 57, 57, 54, 102, 98, 57, 50, 52, 50, 55, 97, 101, 52, 49, 101, 52, 54, 52, 57, 98, 57, 51, 52, 99, 97, 52, 57, 53, 57, 57, 49, 98, 55, 56, 53, 50, 98, 56, 53, 53]⟩ : ByteArray).data.toList) = true := by decide +kernel
set_option maxRecDepth 100000 in
theorem hex_abc : (hexL (sha ((⟨#[97, 98, 99]⟩ : ByteArray).data.toList.map UInt8.toNat)) == (⟨#[98, 97, 55, 56, 49, 54, 98, 102, 56, 102, 48, 49, 99, 102, 101, 97, 52, 49, 52, 49, 52, 48, 100, 101, 53, 100, 97, 101, 50, 50, 50, 51, 98, 48, 48, 51, 54, 49, 97, 51, 57, 54, 49, 55, 55, 97, 57, 99, 98, 52, 49, 48, 102, 102, 54, 49, 102, 50, 48, 48, 49, 53, 97, 100]⟩ : ByteArray).data.toList) = true := by decide +kernel
set_option maxHeartbeats 1000000 in
theorem lives_v (w : World) : Calls Try.prog 8 #[] w fun e w' => e = .returned (.bool true) ∧ Below w.heap.size w w' := by
  have T1 := Lib.hid (fun V => told_v ⟨#[]⟩ ⟨#[101, 51, 98, 48, 99, 52, 52, 50, 57, 56, 102, 99, 49, 99, 49, 52, 57, 97, 102, 98, 102, 52, 99, 56, 57, 57, 54, 102, 98, 57, 50, 52, 50, 55, 97, 101, 52, 49, 101, 52, 54, 52, 57, 98, 57, 51, 52, 99, 97, 52, 57, 53, 57, 57, 49, 98, 55, 56, 53, 50, 98, 56, 53, 53]⟩ V (by decide) true hex_nil)
  have T2 := Lib.hid (fun V => told_v ⟨#[97, 98, 99]⟩ ⟨#[98, 97, 55, 56, 49, 54, 98, 102, 56, 102, 48, 49, 99, 102, 101, 97, 52, 49, 52, 49, 52, 48, 100, 101, 53, 100, 97, 101, 50, 50, 50, 51, 98, 48, 48, 51, 54, 49, 97, 51, 57, 54, 49, 55, 55, 97, 57, 99, 98, 52, 49, 48, 102, 102, 54, 49, 102, 50, 48, 48, 49, 53, 97, 100]⟩ V (by decide) true hex_abc)
  go_enter Try.func8, Try.ntmps8
  go_wp2_with fail
  refine (T1.out w).mono ?_
  rintro e w1 ⟨rfl, hb1⟩
  go_wp2_with fail
  refine (T2.out w1).mono ?_
  rintro e w2 ⟨rfl, hb2⟩
  have B := Lib.hid (hb1.trans (hb2.mono hb1.size))
  clear hb1 hb2
  go_wp2
  go_ret
  exact ⟨rfl, B.out⟩
theorem wnil_v (A : Option Addr) (n c : Nat) (w : World) : Calls Try.prog 9 #[.pointer none, .slice A n c] w fun e w' => e = .returned (.int .i64 1) ∧ w = w' := by
  go_enter Try.func9, Try.ntmps9
  go_wp2
  go_ret
  exact ⟨rfl, rfl⟩
theorem znil_v (w : World) : Calls Try.prog 12 #[.pointer none] w fun e w' => e = .returned (.int .i64 0) ∧ w = w' := by
  go_enter Try.func12, Try.ntmps12
  go_wp2
  go_ret
  exact ⟨rfl, rfl⟩
set_option maxRecDepth 100000 in
set_option maxHeartbeats 1000000 in
theorem snil_v (w : World) : Calls Try.prog 11 #[.pointer none] w fun e w' => e = .returned (.agg #[Value.int .u8 0, Value.int .u8 0, Value.int .u8 0, Value.int .u8 0, Value.int .u8 0, Value.int .u8 0, Value.int .u8 0, Value.int .u8 0, Value.int .u8 0, Value.int .u8 0, Value.int .u8 0, Value.int .u8 0, Value.int .u8 0, Value.int .u8 0, Value.int .u8 0, Value.int .u8 0, Value.int .u8 0, Value.int .u8 0, Value.int .u8 0, Value.int .u8 0, Value.int .u8 0, Value.int .u8 0, Value.int .u8 0, Value.int .u8 0, Value.int .u8 0, Value.int .u8 0, Value.int .u8 0, Value.int .u8 0, Value.int .u8 0, Value.int .u8 0, Value.int .u8 0, Value.int .u8 0]) ∧ Below w.heap.size w w' := by
  obtain ⟨cs, hcs⟩ : ∃ cs : Array Value, cs = #[Value.int .u8 0, Value.int .u8 0, Value.int .u8 0, Value.int .u8 0, Value.int .u8 0, Value.int .u8 0, Value.int .u8 0, Value.int .u8 0, Value.int .u8 0, Value.int .u8 0, Value.int .u8 0, Value.int .u8 0, Value.int .u8 0, Value.int .u8 0, Value.int .u8 0, Value.int .u8 0, Value.int .u8 0, Value.int .u8 0, Value.int .u8 0, Value.int .u8 0, Value.int .u8 0, Value.int .u8 0, Value.int .u8 0, Value.int .u8 0, Value.int .u8 0, Value.int .u8 0, Value.int .u8 0, Value.int .u8 0, Value.int .u8 0, Value.int .u8 0, Value.int .u8 0, Value.int .u8 0] := ⟨_, rfl⟩
  have HB0 := Lib.hid (heap_alloc_new w (.cells #[Value.int .u8 0, Value.int .u8 0, Value.int .u8 0, Value.int .u8 0, Value.int .u8 0, Value.int .u8 0, Value.int .u8 0, Value.int .u8 0, Value.int .u8 0, Value.int .u8 0, Value.int .u8 0, Value.int .u8 0, Value.int .u8 0, Value.int .u8 0, Value.int .u8 0, Value.int .u8 0, Value.int .u8 0, Value.int .u8 0, Value.int .u8 0, Value.int .u8 0, Value.int .u8 0, Value.int .u8 0, Value.int .u8 0, Value.int .u8 0, Value.int .u8 0, Value.int .u8 0, Value.int .u8 0, Value.int .u8 0, Value.int .u8 0, Value.int .u8 0, Value.int .u8 0, Value.int .u8 0] 29))
  have HI9 := Lib.hid (show (Try.prog.info? 29).map (·.size) = some 32 by kernel_rfl)
  have HC := Lib.hid hcs
  have HS := Lib.hid (show cs.size = 32 by rw [hcs]; rfl)
  have HO := Lib.hid (show cs.all (·.oneCell') = true by rw [hcs]; simp [Value.oneCell'])
  clear hcs
  go_enter Try.func11, Try.ntmps11
  go_wp2_with (first
    | (refine wpList_store_row rfl 29 (.tmp 2) (.tmp 5) rfl w.heap.size cs rfl (by rw [HC.out]; rfl) 29 #[Value.int .u8 0, Value.int .u8 0, Value.int .u8 0, Value.int .u8 0, Value.int .u8 0, Value.int .u8 0, Value.int .u8 0, Value.int .u8 0, Value.int .u8 0, Value.int .u8 0, Value.int .u8 0, Value.int .u8 0, Value.int .u8 0, Value.int .u8 0, Value.int .u8 0, Value.int .u8 0, Value.int .u8 0, Value.int .u8 0, Value.int .u8 0, Value.int .u8 0, Value.int .u8 0, Value.int .u8 0, Value.int .u8 0, Value.int .u8 0, Value.int .u8 0, Value.int .u8 0, Value.int .u8 0, Value.int .u8 0, Value.int .u8 0, Value.int .u8 0, Value.int .u8 0, Value.int .u8 0] HB0.out (HI9.out.trans (by rw [HS.out])) (by rw [HS.out]; rfl) HO.out ?_)
    | fail)
  have HW := Lib.hid (setRow_heap (w.alloc (.cells #[Value.int .u8 0, Value.int .u8 0, Value.int .u8 0, Value.int .u8 0, Value.int .u8 0, Value.int .u8 0, Value.int .u8 0, Value.int .u8 0, Value.int .u8 0, Value.int .u8 0, Value.int .u8 0, Value.int .u8 0, Value.int .u8 0, Value.int .u8 0, Value.int .u8 0, Value.int .u8 0, Value.int .u8 0, Value.int .u8 0, Value.int .u8 0, Value.int .u8 0, Value.int .u8 0, Value.int .u8 0, Value.int .u8 0, Value.int .u8 0, Value.int .u8 0, Value.int .u8 0, Value.int .u8 0, Value.int .u8 0, Value.int .u8 0, Value.int .u8 0, Value.int .u8 0, Value.int .u8 0] 29)) w.heap.size _ cs _ _ HB0.out)
  have HBL := Lib.hid (below_setRow ((Below.refl w.heap.size w).alloc (Nat.le_refl _) (.cells #[Value.int .u8 0, Value.int .u8 0, Value.int .u8 0, Value.int .u8 0, Value.int .u8 0, Value.int .u8 0, Value.int .u8 0, Value.int .u8 0, Value.int .u8 0, Value.int .u8 0, Value.int .u8 0, Value.int .u8 0, Value.int .u8 0, Value.int .u8 0, Value.int .u8 0, Value.int .u8 0, Value.int .u8 0, Value.int .u8 0, Value.int .u8 0, Value.int .u8 0, Value.int .u8 0, Value.int .u8 0, Value.int .u8 0, Value.int .u8 0, Value.int .u8 0, Value.int .u8 0, Value.int .u8 0, Value.int .u8 0, Value.int .u8 0, Value.int .u8 0, Value.int .u8 0, Value.int .u8 0] 29)) (Nat.le_refl _) cs)
  exact bodyPost_ret (results_cell_row Try.results11 _ _ w.heap.size _ cs _ _ rfl HW.out Try.underlying29 rfl (HI9.out.trans (by rw [HS.out]))) rfl ⟨by rw [HC.out], HBL.out⟩
theorem eq_zero (w : World) : (binOp .eql 29 (.agg #[Value.int .u8 0, Value.int .u8 0, Value.int .u8 0, Value.int .u8 0, Value.int .u8 0, Value.int .u8 0, Value.int .u8 0, Value.int .u8 0, Value.int .u8 0, Value.int .u8 0, Value.int .u8 0, Value.int .u8 0, Value.int .u8 0, Value.int .u8 0, Value.int .u8 0, Value.int .u8 0, Value.int .u8 0, Value.int .u8 0, Value.int .u8 0, Value.int .u8 0, Value.int .u8 0, Value.int .u8 0, Value.int .u8 0, Value.int .u8 0, Value.int .u8 0, Value.int .u8 0, Value.int .u8 0, Value.int .u8 0, Value.int .u8 0, Value.int .u8 0, Value.int .u8 0, Value.int .u8 0]) (.agg #[Value.int .u8 0, Value.int .u8 0, Value.int .u8 0, Value.int .u8 0, Value.int .u8 0, Value.int .u8 0, Value.int .u8 0, Value.int .u8 0, Value.int .u8 0, Value.int .u8 0, Value.int .u8 0, Value.int .u8 0, Value.int .u8 0, Value.int .u8 0, Value.int .u8 0, Value.int .u8 0, Value.int .u8 0, Value.int .u8 0, Value.int .u8 0, Value.int .u8 0, Value.int .u8 0, Value.int .u8 0, Value.int .u8 0, Value.int .u8 0, Value.int .u8 0, Value.int .u8 0, Value.int .u8 0, Value.int .u8 0, Value.int .u8 0, Value.int .u8 0, Value.int .u8 0, Value.int .u8 0])).run Try.prog w = .ok (.bool true) w := by kernel_rfl
end Go.Proofs.Ytlbiinkidecfbaa
