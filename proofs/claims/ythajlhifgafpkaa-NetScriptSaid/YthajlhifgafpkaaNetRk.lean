/-
  Nets: the law's same, where the answers are the same.
-/
import Derived.Test.YthajlhifgafpkaaNetRj
namespace Go.Proofs.Ythajlhifgafpkaa
open Go.RowKit Go.Shelf
theorem slot_cells' {W : World} {g off : Nat} {cs : Array Value} {t : TypeId} {fr : Nat × Nat} (h : W.heap[g]? = some (.cells cs t fr)) (j : Nat) (v : Value) (hv : cs[off + j]? = some v) : W.cell? ((⟨g, off, none⟩ : Addr).add j) = some v := by
  have e : (⟨g, off, none⟩ : Addr).add j = ⟨g, off + j, none⟩ := by unfold Addr.add; split <;> simp_all
  rw [e, cell_of_row _ _ (off + j) _ _ _ h, hv]
theorem r7_any (v0 v1 v2 v3 v4 v5 v6 : Value) (j : Nat) (v : Value) (h : ([v1, v2, v3, v4, v5] : List Value)[j]? = some v) : (#[v0, v1, v2, v3, v4, v5, v6] : Array Value)[1 + j]? = some v := by
  rcases j with _ | _ | _ | _ | _ | j
  · simpa using h
  · simpa using h
  · simpa using h
  · simpa using h
  · simpa using h
  · simp at h
set_option maxRecDepth 100000 in
set_option maxHeartbeats 4000000 in
theorem same_v (q pn : Nat) (pf pt : Int) (pr er : Nat) (va : Option Addr) (vl vc : Nat) (ua : Option Addr) (ul uc : Nat) (l : List UInt8) (w : World) (hv : BReads w w.heap.size va vl l) (hu : BReads w w.heap.size ua ul l) :
    Calls Try.prog 28 #[.agg #[.int .u64 (q : Int), .int .u64 (pn : Int), .int .i64 pf, .int .i64 pt, .int .u64 (pr : Int), .slice va vl vc, .int .i64 (er : Int)], .agg #[.int .u64 (q : Int), .int .u64 (pn : Int), .int .i64 pf, .int .i64 pt, .int .u64 (pr : Int), .slice ua ul uc, .int .i64 (er : Int)]] w fun e w' => e = .returned (.bool true) ∧ Below w.heap.size w w' := by
  have HI := Lib.hid (show (Try.prog.info? 34).map (·.size) = some 5 by kernel_rfl)
  have X1 := Lib.hid (heap_alloc2_old w (.cells #[.int .u64 (q : Int), .int .u64 (pn : Int), .int .i64 pf, .int .i64 pt, .int .u64 (pr : Int), .slice va vl vc, .int .i64 (er : Int)] 47) (.cells #[.int .u64 (q : Int), .int .u64 (pn : Int), .int .i64 pf, .int .i64 pt, .int .u64 (pr : Int), .slice ua ul uc, .int .i64 (er : Int)] 47))
  have X2 := Lib.hid (heap_alloc2_new w (.cells #[.int .u64 (q : Int), .int .u64 (pn : Int), .int .i64 pf, .int .i64 pt, .int .u64 (pr : Int), .slice va vl vc, .int .i64 (er : Int)] 47) (.cells #[.int .u64 (q : Int), .int .u64 (pn : Int), .int .i64 pf, .int .i64 pt, .int .u64 (pr : Int), .slice ua ul uc, .int .i64 (er : Int)] 47))
  have B2 := Lib.hid (((Below.refl w.heap.size w).alloc (Nat.le_refl _) (.cells #[.int .u64 (q : Int), .int .u64 (pn : Int), .int .i64 pf, .int .i64 pt, .int .u64 (pr : Int), .slice va vl vc, .int .i64 (er : Int)] 47)).alloc (by simp) (.cells #[.int .u64 (q : Int), .int .u64 (pn : Int), .int .i64 pf, .int .i64 pt, .int .u64 (pr : Int), .slice ua ul uc, .int .i64 (er : Int)] 47))
  have hz : ((w.alloc (.cells #[.int .u64 (q : Int), .int .u64 (pn : Int), .int .i64 pf, .int .i64 pt, .int .u64 (pr : Int), .slice va vl vc, .int .i64 (er : Int)] 47)).alloc (.cells #[.int .u64 (q : Int), .int .u64 (pn : Int), .int .i64 pf, .int .i64 pt, .int .u64 (pr : Int), .slice ua ul uc, .int .i64 (er : Int)] 47)).heap.size = w.heap.size + 2 := by simp
  have a0 : ((w.alloc (.cells #[.int .u64 (q : Int), .int .u64 (pn : Int), .int .i64 pf, .int .i64 pt, .int .u64 (pr : Int), .slice va vl vc, .int .i64 (er : Int)] 47)).alloc (.cells #[.int .u64 (q : Int), .int .u64 (pn : Int), .int .i64 pf, .int .i64 pt, .int .u64 (pr : Int), .slice ua ul uc, .int .i64 (er : Int)] 47)).cell? ⟨w.heap.size, 0, none⟩ = some (.int .u64 (q : Int)) := by rw [cell_of_row _ _ 0 _ _ _ X1.out]; rfl
  have a6 : ((w.alloc (.cells #[.int .u64 (q : Int), .int .u64 (pn : Int), .int .i64 pf, .int .i64 pt, .int .u64 (pr : Int), .slice va vl vc, .int .i64 (er : Int)] 47)).alloc (.cells #[.int .u64 (q : Int), .int .u64 (pn : Int), .int .i64 pf, .int .i64 pt, .int .u64 (pr : Int), .slice ua ul uc, .int .i64 (er : Int)] 47)).cell? ⟨w.heap.size, 6, none⟩ = some (.int .i64 (er : Int)) := by rw [cell_of_row _ _ 6 _ _ _ X1.out]; rfl
  have b0 : ((w.alloc (.cells #[.int .u64 (q : Int), .int .u64 (pn : Int), .int .i64 pf, .int .i64 pt, .int .u64 (pr : Int), .slice va vl vc, .int .i64 (er : Int)] 47)).alloc (.cells #[.int .u64 (q : Int), .int .u64 (pn : Int), .int .i64 pf, .int .i64 pt, .int .u64 (pr : Int), .slice ua ul uc, .int .i64 (er : Int)] 47)).cell? ⟨w.heap.size + 1, 0, none⟩ = some (.int .u64 (q : Int)) := by rw [cell_of_row _ _ 0 _ _ _ X2.out]; rfl
  have b6 : ((w.alloc (.cells #[.int .u64 (q : Int), .int .u64 (pn : Int), .int .i64 pf, .int .i64 pt, .int .u64 (pr : Int), .slice va vl vc, .int .i64 (er : Int)] 47)).alloc (.cells #[.int .u64 (q : Int), .int .u64 (pn : Int), .int .i64 pf, .int .i64 pt, .int .u64 (pr : Int), .slice ua ul uc, .int .i64 (er : Int)] 47)).cell? ⟨w.heap.size + 1, 6, none⟩ = some (.int .i64 (er : Int)) := by rw [cell_of_row _ _ 6 _ _ _ X2.out]; rfl
  have HV := Lib.hid (Reads.more (Reads.below hv B2.out) B2.out.size)
  have HU := Lib.hid (Reads.more (Reads.below hu B2.out) B2.out.size)
  have HZ := Lib.hid hz
  clear hv hu hz
  have L1 := Lib.hid (fun j v hj => slot_cells' (off := 1) X1.out j v (r7_any _ _ _ _ _ _ _ j v hj))
  go_enter Try.func28, Try.ntmps28
  go_upto_region 1 with fail
  generalize ((w.alloc (.cells #[.int .u64 (q : Int), .int .u64 (pn : Int), .int .i64 pf, .int .i64 pt, .int .u64 (pr : Int), .slice va vl vc, .int .i64 (er : Int)] 47)).alloc (.cells #[.int .u64 (q : Int), .int .u64 (pn : Int), .int .i64 pf, .int .i64 pt, .int .u64 (pr : Int), .slice ua ul uc, .int .i64 (er : Int)] 47)) = w2 at *
  have BP := Lib.hid ((Below.refl w2.heap.size w2).alloc (Nat.le_refl _) (.cells #[.int .u64 (pn : Int), .int .i64 pf, .int .i64 pt, .int .u64 (pr : Int), .slice va vl vc] 34))
  have X3 := Lib.hid ((BP.out.block (w.heap.size + 1) (by have := HZ.out; omega)).trans X2.out)
  have L2 := Lib.hid (fun j v hj => slot_cells' (off := 1) X3.out j v (r7_any _ _ _ _ _ _ _ j v hj))
  have N1 := Lib.hid (PReads.one w2 ⟨⟨pn, pf, pt, pr, l⟩, va, vl, vc⟩ 34 #[.int .u64 (pn : Int), .int .i64 pf, .int .i64 pt, .int .u64 (pr : Int), .slice va vl vc] rfl HV.out)
  have HU2 := Lib.hid (Reads.more (Reads.below HU.out BP.out) BP.out.size)
  have N2 := Lib.hid (PReads.one (w2.alloc (.cells #[.int .u64 (pn : Int), .int .i64 pf, .int .i64 pt, .int .u64 (pr : Int), .slice va vl vc] 34)) ⟨⟨pn, pf, pt, pr, l⟩, ua, ul, uc⟩ 34 #[.int .u64 (pn : Int), .int .i64 pf, .int .i64 pt, .int .u64 (pr : Int), .slice ua ul uc] rfl HU2.out)
  have N1' := Lib.hid ((N1.out.below (((Below.refl (w2.alloc (.cells #[.int .u64 (pn : Int), .int .i64 pf, .int .i64 pt, .int .u64 (pr : Int), .slice va vl vc] 34)).heap.size (w2.alloc (.cells #[.int .u64 (pn : Int), .int .i64 pf, .int .i64 pt, .int .u64 (pr : Int), .slice va vl vc] 34))).alloc (Nat.le_refl _) (.cells #[.int .u64 (pn : Int), .int .i64 pf, .int .i64 pt, .int .u64 (pr : Int), .slice ua ul uc] 34)).mono (by simp))).more (B' := ((w2.alloc (.cells #[.int .u64 (pn : Int), .int .i64 pf, .int .i64 pt, .int .u64 (pr : Int), .slice va vl vc] 34)).alloc (.cells #[.int .u64 (pn : Int), .int .i64 pf, .int .i64 pt, .int .u64 (pr : Int), .slice ua ul uc] 34)).heap.size) (by simp))
  have N2' := Lib.hid (N2.out.more (B' := ((w2.alloc (.cells #[.int .u64 (pn : Int), .int .i64 pf, .int .i64 pt, .int .u64 (pr : Int), .slice va vl vc] 34)).alloc (.cells #[.int .u64 (pn : Int), .int .i64 pf, .int .i64 pt, .int .u64 (pr : Int), .slice ua ul uc] 34)).heap.size) (by simp))
  have B4 := Lib.hid ((B2.out.alloc B2.out.size (.cells #[.int .u64 (pn : Int), .int .i64 pf, .int .i64 pt, .int .u64 (pr : Int), .slice va vl vc] 34)).alloc (by have := HZ.out; simp; omega) (.cells #[.int .u64 (pn : Int), .int .i64 pf, .int .i64 pt, .int .u64 (pr : Int), .slice ua ul uc] 34))
  have PS := Lib.hid (packs_same (some ⟨w2.heap.size, 0, none⟩) (some ⟨w2.heap.size + 1, 0, none⟩) 1 1 1 [⟨⟨pn, pf, pt, pr, l⟩, va, vl, vc⟩] [⟨⟨pn, pf, pt, pr, l⟩, ua, ul, uc⟩] ((w2.alloc (.cells #[.int .u64 (pn : Int), .int .i64 pf, .int .i64 pt, .int .u64 (pr : Int), .slice va vl vc] 34)).alloc (.cells #[.int .u64 (pn : Int), .int .i64 pf, .int .i64 pt, .int .u64 (pr : Int), .slice ua ul uc] 34)) N1'.out (by have := N2'.out; simpa using this) rfl (by omega))
  go_wp2_with (first
    | (refine wpList_load_slot rfl 34 (.tmp 18) rfl ⟨w.heap.size, 1, none⟩ rfl [.int .u64 (pn : Int), .int .i64 pf, .int .i64 pt, .int .u64 (pr : Int), .slice va vl vc] _ L1.out Try.underlying34 rfl HI.out ?_)
    | (refine wpList_load_slot rfl 34 (.tmp 21) rfl ⟨w.heap.size + 1, 1, none⟩ rfl [.int .u64 (pn : Int), .int .i64 pf, .int .i64 pt, .int .u64 (pr : Int), .slice ua ul uc] _ L2.out Try.underlying34 rfl HI.out ?_)
    | fail)
  refine PS.out.mono ?_
  rintro e w5 ⟨rfl, hb5⟩
  have B5 := Lib.hid (B4.out.trans (hb5.mono (by have := HZ.out; simp; omega)))
  go_wp2_with fail
  go_ret
  exact ⟨rfl, B5.out⟩
end Go.Proofs.Ythajlhifgafpkaa
