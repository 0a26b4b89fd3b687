/-
  Nets: the law's call.
-/
import Derived.Test.YthajlhifgafpkaaNetT
import Derived.Test.YthajlhifgafpkaaNetQ
namespace Go.Proofs.Ythajlhifgafpkaa
open Go.RowKit Go.Shelf
set_option maxHeartbeats 1000000 in
theorem pick_any (n : Int) (m : Nat) (w : World) (h0 : 1 ≤ m) (hm : m ≤ 140737488355328) :
    Calls Try.prog 20 #[.int .i64 n, .int .i64 (m : Int)] w fun e w' => e = .returned (.int .i64 (n % (m : Int))) ∧ w = w' := by
  go_enter Try.func20, Try.ntmps20
  go_wp2
  · have hlt : n.tmod m < 0 := by assumption
    have hb := Int.tmod_lt_of_pos n (show (0 : Int) < m by omega)
    have hb2 := Int.lt_tmod_of_pos n (show (0 : Int) < m by omega)
    go_ret
    refine ⟨ret_int ?_, rfl⟩
    rw [IntWalk.wrap64_in _ ⟨by omega, by omega⟩, Int.tmod_eq_emod]
    split <;> rename_i h
    · rw [Int.tmod_eq_emod, if_pos h] at hlt
      have := Int.emod_nonneg n (show (m : Int) ≠ 0 by omega)
      omega
    · omega
  · have hge : 0 ≤ n.tmod m := by assumption
    go_ret
    refine ⟨ret_int ?_, rfl⟩
    rw [Int.tmod_eq_emod] at hge ⊢
    split <;> rename_i h
    · omega
    · rw [if_neg h] at hge
      have := Int.emod_lt_of_pos n (show (0 : Int) < m by omega)
      omega
structure Ans where
  num : Nat
  pk : Pk
  err : Nat
/-- What a call answers, and what the net is then. -/
def NS.call (s : NS) (k a b : Int) (n : Nat) (l : List UInt8) : Ans × NS :=
  if k % 6 = 0 then (⟨0, zeroPk, (s.up a b).1⟩, (s.up a b).2)
  else if k % 6 = 1 then (⟨0, zeroPk, (s.down a b).1⟩, (s.down a b).2)
  else if k % 6 = 2 then (⟨0, (s.take n).1.1, (s.take n).1.2⟩, (s.take n).2)
  else if k % 6 = 3 then (⟨0, zeroPk, (s.take n).1.2⟩, (s.take n).2)
  else if k % 6 = 4 then (⟨(s.twice n).1.1, zeroPk, (s.twice n).1.2⟩, (s.twice n).2)
  else (⟨(s.send a b l).1.1, zeroPk, (s.send a b l).1.2⟩, (s.send a b l).2)
theorem NetIs.setAns {W : World} {base g mb n c j : Nat} {A : Option Addr} {vs : List PkV} {s : NS} {cs : Array Value} (h : NetIs W base g mb A n c vs s) (hj : W.heap[j]? = some (.cells cs 47 (0, 0))) (new : Array Value) : NetIs (W.setRow j new) base g mb A n c vs s := by
  refine h.aside j (fun i hi => setRow_other W j i new hi) (fun e => ?_) (fun e => ?_) (fun e => ?_) (fun v hv i hi e => ?_)
  · have := h.hg
    rw [e, hj] at this
    simp at this
  · obtain ⟨es, ck, hm⟩ := h.isMap
    rw [e, hj] at hm
    simp at hm
  · obtain ⟨cur, hc⟩ := h.hf.isCells e
    rw [hj] at hc
    simp at hc
  · obtain ⟨cur, hc⟩ := (h.hf.bytes v hv).1.isCells hi
    rw [e, hj] at hc
    simp at hc
theorem NetCh.setAns {W W' : World} {g mb n c n' c' j : Nat} {A A' : Option Addr} (h : NetCh g mb A n c A' n' c' W W') (hj : W.heap.size ≤ j) (new : Array Value) : NetCh g mb A n c A' n' c' W (W'.setRow j new) :=
  ⟨by have := h.size; simpa using this, fun i hi h1 h2 h3 => (setRow_other W' j i new (by omega)).trans (h.blk i hi h1 h2 h3), h.own⟩
theorem take_ex {base g mb n c : Nat} {A : Option Addr} {vs : List PkV} {s : NS} (num : Nat) (w : World) (h : NetIs w base g mb A n c vs s) (hn : n ≤ 4096) :
    Calls Try.prog 15 #[.pointer (some ⟨g, 0, none⟩), .int .u64 (num : Int)] w fun e w' => ∃ va vl vc n' vs', e = .returned (.tuple #[.agg #[.int .u64 ((s.take num).1.1.num : Int), .int .i64 (s.take num).1.1.frm, .int .i64 (s.take num).1.1.too, .int .u64 ((s.take num).1.1.run : Int), .slice va vl vc], .int .i64 ((s.take num).1.2 : Int)]) ∧ BOwn w' base va vl vc (s.take num).1.1.bytes ∧ vl ≤ 262144 ∧ NetIs w' base g mb A n' c vs' (s.take num).2 ∧ Below base w w' ∧ NetCh g mb A n c A n' c w w' := by
  refine (take_v num w h hn).mono ?_
  rintro e w' ⟨⟨vp, va, vl, vc⟩, m, vs', he, ⟨e1, e2, e3⟩, h1, h2, h3⟩
  have e1 : vp = (s.take num).1.1 := e1
  subst e1
  exact ⟨va, vl, vc, m, vs', he, e2, e3, h1, h2, h3⟩
theorem BOwn.setAns {W : World} {base n c j : Nat} {A : Option Addr} {l : List UInt8} {cs : Array Value} (h : BOwn W base A n c l) (hj : W.heap[j]? = some (.cells cs 47 (0, 0))) (new : Array Value) : BOwn (W.setRow j new) base A n c l :=
  h.keep fun i hi => setRow_other W j i new fun e => by
    obtain ⟨cur, hc⟩ := h.isCells hi
    rw [e, hj] at hc
    simp at hc
set_option maxRecDepth 100000 in
set_option maxHeartbeats 16000000 in
theorem call_v {base g mb m c : Nat} {A : Option Addr} {vs : List PkV} {s : NS} (k a b : Int) (n : Nat) (ba : Option Addr) (bl bc B N : Nat) (bs : List UInt8) (w : World) (h : NetIs w base g mb A m c vs s) (ha : I64 a) (hb : I64 b) (hr : BReads w B ba bl bs) (hB : B ≤ w.heap.size) (hbl : bl ≤ 140737488355328)
    (hN : s.small N) (hN2 : N < 1000000) :
    Calls Try.prog 18 #[.pointer (some ⟨g, 0, none⟩), .agg #[.int .i64 k, .int .i64 a, .int .i64 b, .int .u64 (n : Int), .slice ba bl bc]] w fun e w' => ∃ A' m' c' vs' va vl vc, e = .returned (.agg #[.int .u64 ((s.call k a b n bs).1.num : Int), .int .u64 ((s.call k a b n bs).1.pk.num : Int), .int .i64 (s.call k a b n bs).1.pk.frm, .int .i64 (s.call k a b n bs).1.pk.too, .int .u64 ((s.call k a b n bs).1.pk.run : Int), .slice va vl vc, .int .i64 ((s.call k a b n bs).1.err : Int)]) ∧ (BOwn w' base va vl vc (s.call k a b n bs).1.pk.bytes ∧ vl ≤ 262144) ∧
      NetIs w' base g mb A' m' c' vs' (s.call k a b n bs).2 ∧ Below base w w' ∧ NetCh g mb A m c A' m' c' w w' := by
  have HI := Lib.hid (show (Try.prog.info? 47).map (·.size) = some 7 by kernel_rfl)
  have PV := Lib.hid (fun W : World => pick_any k 6 W (by omega) (by omega))
  have R0 := heap_alloc2_new w (.cells #[.int .i64 k, .int .i64 a, .int .i64 b, .int .u64 (n : Int), .slice ba bl bc] 43) (.cells #[.int .u64 0, .int .u64 0, .int .i64 0, .int .i64 0, .int .u64 0, .slice none 0 0, .int .i64 0] 47)
  have A0 := heap_alloc2_old w (.cells #[.int .i64 k, .int .i64 a, .int .i64 b, .int .u64 (n : Int), .slice ba bl bc] 43) (.cells #[.int .u64 0, .int .u64 0, .int .i64 0, .int .i64 0, .int .u64 0, .slice none 0 0, .int .i64 0] 47)
  have B0 := ((Below.refl w.heap.size w).alloc (Nat.le_refl _) (.cells #[.int .i64 k, .int .i64 a, .int .i64 b, .int .u64 (n : Int), .slice ba bl bc] 43)).alloc (by simp) (.cells #[.int .u64 0, .int .u64 0, .int .i64 0, .int .i64 0, .int .u64 0, .slice none 0 0, .int .i64 0] 47)
  have hz : ((w.alloc (.cells #[.int .i64 k, .int .i64 a, .int .i64 b, .int .u64 (n : Int), .slice ba bl bc] 43)).alloc (.cells #[.int .u64 0, .int .u64 0, .int .i64 0, .int .i64 0, .int .u64 0, .slice none 0 0, .int .i64 0] 47)).heap.size = w.heap.size + 2 := by simp
  have hm : m ≤ 4096 := by rw [← h.len]; exact hN.fl
  have hla : s.last < 1000000000 := by have := hN.last; omega
  have hbs : base ≤ w.heap.size := Nat.le_of_lt (Nat.lt_of_le_of_lt h.b1 h.lt)
  have HGL := Lib.hid (show g < w.heap.size ∧ mb < w.heap.size ∧ ∀ j, (Value.slice A m c).ownBlock = some j → j < w.heap.size from ⟨h.lt, h.mlt, fun j hj => (h.hf.base_le j hj).2⟩)
  have R2 := Lib.hid R0
  have A2 := Lib.hid A0
  have B2 := Lib.hid B0
  have H2 := Lib.hid (h.below B0)
  have RD := Lib.hid (Reads.below hr (B0.mono hB))
  have HN := Lib.hid hN
  have HA := Lib.hid ha
  have HBI := Lib.hid hb
  clear R0 A0 B0 hr h hN ha hb
  go_enter Try.func18, Try.ntmps18
  have c0 : ((w.alloc (.cells #[.int .i64 k, .int .i64 a, .int .i64 b, .int .u64 (n : Int), .slice ba bl bc] 43)).alloc (.cells #[.int .u64 0, .int .u64 0, .int .i64 0, .int .i64 0, .int .u64 0, .slice none 0 0, .int .i64 0] 47)).cell? ⟨w.heap.size, 0, none⟩ = some (.int .i64 k) := by rw [cell_of_row _ _ 0 _ _ _ A2.out]; rfl
  go_wp2_with fail
  generalize (w.alloc (.cells #[.int .i64 k, .int .i64 a, .int .i64 b, .int .u64 (n : Int), .slice ba bl bc] 43)).alloc (.cells #[.int .u64 0, .int .u64 0, .int .i64 0, .int .i64 0, .int .u64 0, .slice none 0 0, .int .i64 0] 47) = w2 at *
  have c1 : w2.cell? ⟨w.heap.size, 1, none⟩ = some (.int .i64 a) := by rw [cell_of_row _ _ 1 _ _ _ A2.out]; rfl
  have c2 : w2.cell? ⟨w.heap.size, 2, none⟩ = some (.int .i64 b) := by rw [cell_of_row _ _ 2 _ _ _ A2.out]; rfl
  have c3 : w2.cell? ⟨w.heap.size, 3, none⟩ = some (.int .u64 (n : Int)) := by rw [cell_of_row _ _ 3 _ _ _ A2.out]; rfl
  have c4 : w2.cell? ⟨w.heap.size, 4, none⟩ = some (.slice ba bl bc) := by rw [cell_of_row _ _ 4 _ _ _ A2.out]; rfl
  refine (PV.out w2).mono ?_
  rintro e _ ⟨rfl, rfl⟩
  have hq0 := Int.emod_nonneg k (show ((6 : Nat) : Int) ≠ 0 by omega)
  have hq1 := Int.emod_lt_of_pos k (show (0 : Int) < ((6 : Nat) : Int) by omega)
  obtain ⟨z, hzq⟩ : ∃ z : Int, k % ((6 : Nat) : Int) = z := ⟨_, rfl⟩
  have hq6 : z = 0 ∨ z = 1 ∨ z = 2 ∨ z = 3 ∨ z = 4 ∨ z = 5 := by omega
  have HK := Lib.hid (show k % 6 = z from hzq)
  rw [hzq]
  clear hq0 hq1 hzq PV
  rcases hq6 with rfl | rfl | rfl | rfl | rfl | rfl
  · skip
    have HR := Lib.hid (show s.call k a b n bs = (⟨0, zeroPk, (s.up a b).1⟩, (s.up a b).2) by unfold NS.call; rw [HK.out]; rfl)
    go_wp2_with fail
    refine (up_v a b w2 H2.out HA.out HBI.out N HN.out hN2).mono ?_
    rintro e w3 ⟨rfl, h3, b3, n3⟩
    have R3 := Lib.hid ((n3.blk (w.heap.size + 1) (by omega) (by have := HGL.out.1; omega) (by have := HGL.out.2.1; omega) (fun e => by have := HGL.out.2.2 _ e; omega)).trans R2.out)
    have H3 := Lib.hid h3
    have B3 := Lib.hid ((B2.out.mono hbs).trans b3)
    have N3 := Lib.hid ((NetCh.below B2.out g mb A m c).trans n3)
    clear h3 b3 n3
    go_wp2_with (first
      | (refine wpList_store_row rfl 47 (.tmp 4) (.tmp 22) rfl (w.heap.size + 1) #[.int .u64 0, .int .u64 0, .int .i64 0, .int .i64 0, .int .u64 0, .slice none 0 0, .int .i64 ((s.up a b).1 : Int)] rfl rfl 47 _ R3.out HI.out rfl (by simp [Value.oneCell']) ?_)
      | fail)
    have RW := Lib.hid (setRow_heap w3 (w.heap.size + 1) _ #[.int .u64 0, .int .u64 0, .int .i64 0, .int .i64 0, .int .u64 0, .slice none 0 0, .int .i64 ((s.up a b).1 : Int)] _ _ R3.out)
    have HN3 := Lib.hid (H3.out.setAns R3.out #[.int .u64 0, .int .u64 0, .int .i64 0, .int .i64 0, .int .u64 0, .slice none 0 0, .int .i64 ((s.up a b).1 : Int)])
    have HB := Lib.hid (below_setRow B3.out (show base ≤ w.heap.size + 1 by omega) #[.int .u64 0, .int .u64 0, .int .i64 0, .int .i64 0, .int .u64 0, .slice none 0 0, .int .i64 ((s.up a b).1 : Int)])
    have HCH := Lib.hid (N3.out.setAns (show w.heap.size ≤ w.heap.size + 1 by omega) #[.int .u64 0, .int .u64 0, .int .i64 0, .int .i64 0, .int .u64 0, .slice none 0 0, .int .i64 ((s.up a b).1 : Int)])
    exact bodyPost_ret (results_cell_row Try.results18 _ _ (w.heap.size + 1) _ #[.int .u64 0, .int .u64 0, .int .i64 0, .int .i64 0, .int .u64 0, .slice none 0 0, .int .i64 ((s.up a b).1 : Int)] _ _ rfl RW.out Try.underlying47 rfl HI.out) rfl ⟨A, m, c, vs, none, 0, 0, by rw [HR.out]; rfl, by rw [HR.out]; exact ⟨BOwn.nil_ _ _, Nat.zero_le _⟩, by rw [HR.out]; exact HN3.out, HB.out, HCH.out⟩
  · skip
    have HR := Lib.hid (show s.call k a b n bs = (⟨0, zeroPk, (s.down a b).1⟩, (s.down a b).2) by unfold NS.call; rw [HK.out]; rfl)
    go_wp2_with fail
    refine (down_v a b w2 H2.out HA.out HBI.out hm).mono ?_
    rintro e w3 ⟨m3, v3, rfl, h3, b3, n3⟩
    have R3 := Lib.hid ((n3.blk (w.heap.size + 1) (by omega) (by have := HGL.out.1; omega) (by have := HGL.out.2.1; omega) (fun e => by have := HGL.out.2.2 _ e; omega)).trans R2.out)
    have H3 := Lib.hid h3
    have B3 := Lib.hid ((B2.out.mono hbs).trans b3)
    have N3 := Lib.hid ((NetCh.below B2.out g mb A m c).trans n3)
    clear h3 b3 n3
    go_wp2_with (first
      | (refine wpList_store_row rfl 47 (.tmp 4) (.tmp 31) rfl (w.heap.size + 1) #[.int .u64 0, .int .u64 0, .int .i64 0, .int .i64 0, .int .u64 0, .slice none 0 0, .int .i64 ((s.down a b).1 : Int)] rfl rfl 47 _ R3.out HI.out rfl (by simp [Value.oneCell']) ?_)
      | fail)
    have RW := Lib.hid (setRow_heap w3 (w.heap.size + 1) _ #[.int .u64 0, .int .u64 0, .int .i64 0, .int .i64 0, .int .u64 0, .slice none 0 0, .int .i64 ((s.down a b).1 : Int)] _ _ R3.out)
    have HN3 := Lib.hid (H3.out.setAns R3.out #[.int .u64 0, .int .u64 0, .int .i64 0, .int .i64 0, .int .u64 0, .slice none 0 0, .int .i64 ((s.down a b).1 : Int)])
    have HB := Lib.hid (below_setRow B3.out (show base ≤ w.heap.size + 1 by omega) #[.int .u64 0, .int .u64 0, .int .i64 0, .int .i64 0, .int .u64 0, .slice none 0 0, .int .i64 ((s.down a b).1 : Int)])
    have HCH := Lib.hid (N3.out.setAns (show w.heap.size ≤ w.heap.size + 1 by omega) #[.int .u64 0, .int .u64 0, .int .i64 0, .int .i64 0, .int .u64 0, .slice none 0 0, .int .i64 ((s.down a b).1 : Int)])
    exact bodyPost_ret (results_cell_row Try.results18 _ _ (w.heap.size + 1) _ #[.int .u64 0, .int .u64 0, .int .i64 0, .int .i64 0, .int .u64 0, .slice none 0 0, .int .i64 ((s.down a b).1 : Int)] _ _ rfl RW.out Try.underlying47 rfl HI.out) rfl ⟨A, m3, c, v3, none, 0, 0, by rw [HR.out]; rfl, by rw [HR.out]; exact ⟨BOwn.nil_ _ _, Nat.zero_le _⟩, by rw [HR.out]; exact HN3.out, HB.out, HCH.out⟩
  · have HR := Lib.hid (show s.call k a b n bs = (⟨0, (s.take n).1.1, (s.take n).1.2⟩, (s.take n).2) by unfold NS.call; rw [HK.out]; rfl)
    have HI5 := Lib.hid (show (Try.prog.info? 34).map (·.size) = some 5 by kernel_rfl)
    go_wp2_with fail
    refine (take_ex n w2 H2.out hm).mono ?_
    rintro e w3 ⟨va, vl, vc, m3, v3, rfl, ho3, hl3, h3, b3, n3⟩
    have R2' := Lib.hid ((n3.blk (w.heap.size + 1) (by omega) (by have := HGL.out.1; omega) (by have := HGL.out.2.1; omega) (fun e => by have := HGL.out.2.2 _ e; omega)).trans R2.out)
    have hz3 := n3.size
    have P4 := Lib.hid (heap_alloc_new w3 (.cells #[.int .u64 ((s.take n).1.1.num : Int), .int .i64 (s.take n).1.1.frm, .int .i64 (s.take n).1.1.too, .int .u64 ((s.take n).1.1.run : Int), .slice va vl vc] 34))
    have BA := Lib.hid ((Below.refl w3.heap.size w3).alloc (Nat.le_refl _) (.cells #[.int .u64 ((s.take n).1.1.num : Int), .int .i64 (s.take n).1.1.frm, .int .i64 (s.take n).1.1.too, .int .u64 ((s.take n).1.1.run : Int), .slice va vl vc] 34))
    have R3 := Lib.hid ((BA.out.block (w.heap.size + 1) (by omega)).trans R2'.out)
    have H3 := Lib.hid (h3.below BA.out)
    have O3 := Lib.hid (ho3.below BA.out)
    have B3 := Lib.hid (((B2.out.mono hbs).trans b3).alloc (by omega) (.cells #[.int .u64 ((s.take n).1.1.num : Int), .int .i64 (s.take n).1.1.frm, .int .i64 (s.take n).1.1.too, .int .u64 ((s.take n).1.1.run : Int), .slice va vl vc] 34))
    have N3 := Lib.hid (((NetCh.below B2.out g mb A m c).trans n3).trans (NetCh.below BA.out g mb A m3 c))
    clear h3 b3 n3 ho3 BA R2'
    go_wp2_with (first
      | (refine wpList_load_row rfl 34 (.tmp 5) rfl w3.heap.size rfl 34 #[.int .u64 ((s.take n).1.1.num : Int), .int .i64 (s.take n).1.1.frm, .int .i64 (s.take n).1.1.too, .int .u64 ((s.take n).1.1.run : Int), .slice va vl vc] (0, 0) _ P4.out Try.underlying34 rfl HI5.out ?_)
      | (refine wpList_store_row rfl 47 (.tmp 4) (.tmp 43) rfl (w.heap.size + 1) #[.int .u64 0, .int .u64 ((s.take n).1.1.num : Int), .int .i64 (s.take n).1.1.frm, .int .i64 (s.take n).1.1.too, .int .u64 ((s.take n).1.1.run : Int), .slice va vl vc, .int .i64 ((s.take n).1.2 : Int)] rfl rfl 47 _ R3.out HI.out rfl (by simp [Value.oneCell']) ?_)
      | fail)
    have O4 := Lib.hid (O3.out.setAns R3.out #[.int .u64 0, .int .u64 ((s.take n).1.1.num : Int), .int .i64 (s.take n).1.1.frm, .int .i64 (s.take n).1.1.too, .int .u64 ((s.take n).1.1.run : Int), .slice va vl vc, .int .i64 ((s.take n).1.2 : Int)])
    have RW := Lib.hid (setRow_heap _ (w.heap.size + 1) _ #[.int .u64 0, .int .u64 ((s.take n).1.1.num : Int), .int .i64 (s.take n).1.1.frm, .int .i64 (s.take n).1.1.too, .int .u64 ((s.take n).1.1.run : Int), .slice va vl vc, .int .i64 ((s.take n).1.2 : Int)] _ _ R3.out)
    have HN3 := Lib.hid (H3.out.setAns R3.out #[.int .u64 0, .int .u64 ((s.take n).1.1.num : Int), .int .i64 (s.take n).1.1.frm, .int .i64 (s.take n).1.1.too, .int .u64 ((s.take n).1.1.run : Int), .slice va vl vc, .int .i64 ((s.take n).1.2 : Int)])
    have HB := Lib.hid (below_setRow B3.out (show base ≤ w.heap.size + 1 by omega) #[.int .u64 0, .int .u64 ((s.take n).1.1.num : Int), .int .i64 (s.take n).1.1.frm, .int .i64 (s.take n).1.1.too, .int .u64 ((s.take n).1.1.run : Int), .slice va vl vc, .int .i64 ((s.take n).1.2 : Int)])
    have HCH := Lib.hid (N3.out.setAns (show w.heap.size ≤ w.heap.size + 1 by omega) #[.int .u64 0, .int .u64 ((s.take n).1.1.num : Int), .int .i64 (s.take n).1.1.frm, .int .i64 (s.take n).1.1.too, .int .u64 ((s.take n).1.1.run : Int), .slice va vl vc, .int .i64 ((s.take n).1.2 : Int)])
    exact bodyPost_ret (results_cell_row Try.results18 _ _ (w.heap.size + 1) _ #[.int .u64 0, .int .u64 ((s.take n).1.1.num : Int), .int .i64 (s.take n).1.1.frm, .int .i64 (s.take n).1.1.too, .int .u64 ((s.take n).1.1.run : Int), .slice va vl vc, .int .i64 ((s.take n).1.2 : Int)] _ _ rfl RW.out Try.underlying47 rfl HI.out) rfl ⟨A, m3, c, v3, va, vl, vc, by rw [HR.out]; rfl, by rw [HR.out]; exact ⟨O4.out, hl3⟩, by rw [HR.out]; exact HN3.out, HB.out, HCH.out⟩
  · skip
    have HR := Lib.hid (show s.call k a b n bs = (⟨0, zeroPk, (s.take n).1.2⟩, (s.take n).2) by unfold NS.call; rw [HK.out]; rfl)
    go_wp2_with fail
    refine (drop_v n w2 H2.out hm).mono ?_
    rintro e w3 ⟨m3, v3, rfl, h3, b3, n3⟩
    have R3 := Lib.hid ((n3.blk (w.heap.size + 1) (by omega) (by have := HGL.out.1; omega) (by have := HGL.out.2.1; omega) (fun e => by have := HGL.out.2.2 _ e; omega)).trans R2.out)
    have H3 := Lib.hid h3
    have B3 := Lib.hid ((B2.out.mono hbs).trans b3)
    have N3 := Lib.hid ((NetCh.below B2.out g mb A m c).trans n3)
    clear h3 b3 n3
    go_wp2_with (first
      | (refine wpList_store_row rfl 47 (.tmp 4) (.tmp 50) rfl (w.heap.size + 1) #[.int .u64 0, .int .u64 0, .int .i64 0, .int .i64 0, .int .u64 0, .slice none 0 0, .int .i64 ((s.take n).1.2 : Int)] rfl rfl 47 _ R3.out HI.out rfl (by simp [Value.oneCell']) ?_)
      | fail)
    have RW := Lib.hid (setRow_heap w3 (w.heap.size + 1) _ #[.int .u64 0, .int .u64 0, .int .i64 0, .int .i64 0, .int .u64 0, .slice none 0 0, .int .i64 ((s.take n).1.2 : Int)] _ _ R3.out)
    have HN3 := Lib.hid (H3.out.setAns R3.out #[.int .u64 0, .int .u64 0, .int .i64 0, .int .i64 0, .int .u64 0, .slice none 0 0, .int .i64 ((s.take n).1.2 : Int)])
    have HB := Lib.hid (below_setRow B3.out (show base ≤ w.heap.size + 1 by omega) #[.int .u64 0, .int .u64 0, .int .i64 0, .int .i64 0, .int .u64 0, .slice none 0 0, .int .i64 ((s.take n).1.2 : Int)])
    have HCH := Lib.hid (N3.out.setAns (show w.heap.size ≤ w.heap.size + 1 by omega) #[.int .u64 0, .int .u64 0, .int .i64 0, .int .i64 0, .int .u64 0, .slice none 0 0, .int .i64 ((s.take n).1.2 : Int)])
    exact bodyPost_ret (results_cell_row Try.results18 _ _ (w.heap.size + 1) _ #[.int .u64 0, .int .u64 0, .int .i64 0, .int .i64 0, .int .u64 0, .slice none 0 0, .int .i64 ((s.take n).1.2 : Int)] _ _ rfl RW.out Try.underlying47 rfl HI.out) rfl ⟨A, m3, c, v3, none, 0, 0, by rw [HR.out]; rfl, by rw [HR.out]; exact ⟨BOwn.nil_ _ _, Nat.zero_le _⟩, by rw [HR.out]; exact HN3.out, HB.out, HCH.out⟩
  · skip
    have HR := Lib.hid (show s.call k a b n bs = (⟨(s.twice n).1.1, zeroPk, (s.twice n).1.2⟩, (s.twice n).2) by unfold NS.call; rw [HK.out]; rfl)
    go_wp2_with fail
    refine (twice_v n w2 H2.out hm hla).mono ?_
    rintro e w3 ⟨A3, m3, cc3, v3, rfl, h3, _, b3, n3⟩
    have R3 := Lib.hid ((n3.blk (w.heap.size + 1) (by omega) (by have := HGL.out.1; omega) (by have := HGL.out.2.1; omega) (fun e => by have := HGL.out.2.2 _ e; omega)).trans R2.out)
    have H3 := Lib.hid h3
    have B3 := Lib.hid ((B2.out.mono hbs).trans b3)
    have N3 := Lib.hid ((NetCh.below B2.out g mb A m c).trans n3)
    clear h3 b3 n3
    go_wp2_with (first
      | (refine wpList_store_row rfl 47 (.tmp 4) (.tmp 62) rfl (w.heap.size + 1) #[.int .u64 ((s.twice n).1.1 : Int), .int .u64 0, .int .i64 0, .int .i64 0, .int .u64 0, .slice none 0 0, .int .i64 ((s.twice n).1.2 : Int)] rfl rfl 47 _ R3.out HI.out rfl (by simp [Value.oneCell']) ?_)
      | fail)
    have RW := Lib.hid (setRow_heap w3 (w.heap.size + 1) _ #[.int .u64 ((s.twice n).1.1 : Int), .int .u64 0, .int .i64 0, .int .i64 0, .int .u64 0, .slice none 0 0, .int .i64 ((s.twice n).1.2 : Int)] _ _ R3.out)
    have HN3 := Lib.hid (H3.out.setAns R3.out #[.int .u64 ((s.twice n).1.1 : Int), .int .u64 0, .int .i64 0, .int .i64 0, .int .u64 0, .slice none 0 0, .int .i64 ((s.twice n).1.2 : Int)])
    have HB := Lib.hid (below_setRow B3.out (show base ≤ w.heap.size + 1 by omega) #[.int .u64 ((s.twice n).1.1 : Int), .int .u64 0, .int .i64 0, .int .i64 0, .int .u64 0, .slice none 0 0, .int .i64 ((s.twice n).1.2 : Int)])
    have HCH := Lib.hid (N3.out.setAns (show w.heap.size ≤ w.heap.size + 1 by omega) #[.int .u64 ((s.twice n).1.1 : Int), .int .u64 0, .int .i64 0, .int .i64 0, .int .u64 0, .slice none 0 0, .int .i64 ((s.twice n).1.2 : Int)])
    exact bodyPost_ret (results_cell_row Try.results18 _ _ (w.heap.size + 1) _ #[.int .u64 ((s.twice n).1.1 : Int), .int .u64 0, .int .i64 0, .int .i64 0, .int .u64 0, .slice none 0 0, .int .i64 ((s.twice n).1.2 : Int)] _ _ rfl RW.out Try.underlying47 rfl HI.out) rfl ⟨A3, m3, cc3, v3, none, 0, 0, by rw [HR.out]; rfl, by rw [HR.out]; exact ⟨BOwn.nil_ _ _, Nat.zero_le _⟩, by rw [HR.out]; exact HN3.out, HB.out, HCH.out⟩
  · have HR := Lib.hid (show s.call k a b n bs = (⟨(s.send a b bs).1.1, zeroPk, (s.send a b bs).1.2⟩, (s.send a b bs).2) by unfold NS.call; rw [HK.out]; rfl)
    go_wp2_with fail
    refine wp_region_tree (SK.one 0 false <| .one 1 false <| .one 2 false <| .one 3 false <| .one 4 false <| .one 5 false <| .one 6 false <| .one 7 true <| .one 8 true <| .one 9 false <| .one 10 false <| .one 11 false <| .one 12 false <| .one 13 false .done) (fun V => V.cell? ⟨w.heap.size, 1, none⟩ = some (.int .i64 a) ∧ V.cell? ⟨w.heap.size, 2, none⟩ = some (.int .i64 b) ∧ V.cell? ⟨w.heap.size, 4, none⟩ = some (.slice ba bl bc)) (by kernel_rfl) (by kernel_rfl) (by kernel_rfl) (by kernel_rfl) ?_
    have hS : w2.drew.cell? ⟨w.heap.size, 1, none⟩ = some (.int .i64 a) ∧ w2.drew.cell? ⟨w.heap.size, 2, none⟩ = some (.int .i64 b) ∧ w2.drew.cell? ⟨w.heap.size, 4, none⟩ = some (.slice ba bl bc) := ⟨c1, c2, c4⟩
    have R2' := Lib.hid (show w2.drew.heap[w.heap.size + 1]? = _ from R2.out)
    have B2' := Lib.hid B2.out.drew
    have H2' := Lib.hid H2.out.drew
    have RD2 := Lib.hid (Reads.below RD.out (show Below B w2 w2.drew from (Below.refl B w2).drew))
    have hz2 : w2.drew.heap.size = w.heap.size + 2 := hz
    clear R2 A2 B2 H2 RD c0 c1 c2 c3 c4
    generalize w2.drew = w3 at *
    ((first | (refine TR.val2 (v := ?_) _ (by simp only [List.getElem?_toArray, List.getElem?_cons_zero]; rfl) ?_ ?_ ?_ ?_ ?_; rotate_left; (focus rfl); (focus (intro W hSW; (try dsimp only at hSW); (try (obtain ⟨hS1, hSW⟩ := hSW)); (try (obtain ⟨hS2, hSW⟩ := hSW)); (try (obtain ⟨hS3, hSW⟩ := hSW)); (try (obtain ⟨hS4, hSW⟩ := hSW)); (try (obtain ⟨hS5, hSW⟩ := hSW)); (try (obtain ⟨hS6, hSW⟩ := hSW)); (try (obtain ⟨hS7, hSW⟩ := hSW)); (try (obtain ⟨hS8, hSW⟩ := hSW)); go_simp; (try with_reducible rfl); done)); (focus exact fun _ _ _ h => h); (focus assumption)) | (refine TR.skip _ (by simp only [List.getElem?_toArray, List.getElem?_cons_zero]; rfl) ?_ ?_ ?_ ?_; (focus rfl); (focus exact fun _ _ _ h => h); (focus assumption))); simp only [Act.put, List.setIfInBounds_toArray, List.set_cons_zero, List.set_cons_succ])
    iterate 6 ((first | (refine TR.val2 (v := ?_) _ (by simp only [List.getElem?_toArray, List.getElem?_cons_succ, List.getElem?_cons_zero]; rfl) ?_ ?_ ?_ ?_ ?_; rotate_left; (focus rfl); (focus (intro W hSW; (try dsimp only at hSW); (try (obtain ⟨hS1, hSW⟩ := hSW)); (try (obtain ⟨hS2, hSW⟩ := hSW)); (try (obtain ⟨hS3, hSW⟩ := hSW)); (try (obtain ⟨hS4, hSW⟩ := hSW)); (try (obtain ⟨hS5, hSW⟩ := hSW)); (try (obtain ⟨hS6, hSW⟩ := hSW)); (try (obtain ⟨hS7, hSW⟩ := hSW)); (try (obtain ⟨hS8, hSW⟩ := hSW)); go_simp; (try with_reducible rfl); done)); (focus exact fun _ _ _ h => h); (focus assumption)) | (refine TR.skip _ (by simp only [List.getElem?_toArray, List.getElem?_cons_succ, List.getElem?_cons_zero]; rfl) ?_ ?_ ?_ ?_; (focus rfl); (focus exact fun _ _ _ h => h); (focus assumption))); simp only [Act.put, List.setIfInBounds_toArray, List.set_cons_zero, List.set_cons_succ])
    refine TR.eff _ (by simp only [List.getElem?_toArray, List.getElem?_cons_succ, List.getElem?_cons_zero]; rfl) (by rfl) (fun K hK => ?_); go_simp
    refine (own_any B ba bl bc bs w3 RD2.out (by omega) hbl).mono ?_
    rintro e w4 ⟨A4, c4', rfl, ho4, hb4⟩
    have R4 := Lib.hid ((hb4.block (w.heap.size + 1) (by omega)).trans R2'.out)
    have e4 := hb4.block w.heap.size (by omega)
    have B4 := Lib.hid (B2'.out.trans (hb4.mono (by omega)))
    have H4 := Lib.hid (H2'.out.below hb4)
    have O4 := Lib.hid ho4.reads
    have hz4 := hb4.size
    have hS4 : w4.cell? ⟨w.heap.size, 1, none⟩ = some (.int .i64 a) ∧ w4.cell? ⟨w.heap.size, 2, none⟩ = some (.int .i64 b) ∧ w4.cell? ⟨w.heap.size, 4, none⟩ = some (.slice ba bl bc) := ⟨(World.cell?_of_block e4).trans hS.1, (World.cell?_of_block e4).trans hS.2.1, (World.cell?_of_block e4).trans hS.2.2⟩
    refine hK.out _ _ hS4 ?_
    clear hK hS R2' B2' H2' RD2 hb4 e4 ho4
    have hS := hS4
    clear hS4
    (try simp only [Act.put, List.setIfInBounds_toArray, List.set_cons_zero, List.set_cons_succ])
    refine TR.eff _ (by simp only [List.getElem?_toArray, List.getElem?_cons_succ, List.getElem?_cons_zero]; rfl) (by rfl) (fun K hK => ?_); go_simp
    refine (send_v a b A4 bl c4' w4.heap.size bs w4 H4.out HA.out HBI.out hm hla O4.out (Nat.le_refl _) hbl).mono ?_
    rintro e w5 ⟨A5, m5, cc5, v5, rfl, h5, _, b5, n5⟩
    have R3 := Lib.hid ((n5.blk (w.heap.size + 1) (by omega) (by have := HGL.out.1; omega) (by have := HGL.out.2.1; omega) (fun e => by have := HGL.out.2.2 _ e; omega)).trans R4.out)
    have e5 := n5.blk w.heap.size (by omega) (by have := HGL.out.1; omega) (by have := HGL.out.2.1; omega) (fun e => by have := HGL.out.2.2 _ e; omega)
    have H3 := Lib.hid h5
    have B3 := Lib.hid ((B4.out.mono hbs).trans b5)
    have N3 := Lib.hid ((NetCh.below B4.out g mb A m c).trans n5)
    have hS5 : w5.cell? ⟨w.heap.size, 1, none⟩ = some (.int .i64 a) ∧ w5.cell? ⟨w.heap.size, 2, none⟩ = some (.int .i64 b) ∧ w5.cell? ⟨w.heap.size, 4, none⟩ = some (.slice ba bl bc) := ⟨(World.cell?_of_block e5).trans hS.1, (World.cell?_of_block e5).trans hS.2.1, (World.cell?_of_block e5).trans hS.2.2⟩
    refine hK.out _ _ hS5 ?_
    clear hK hS h5 b5 n5 e5 R4 B4 H4
    have hS := hS5
    clear hS5
    (try simp only [Act.put, List.setIfInBounds_toArray, List.set_cons_zero, List.set_cons_succ])
    iterate 5 ((first | (refine TR.val2 (v := ?_) _ (by simp only [List.getElem?_toArray, List.getElem?_cons_succ, List.getElem?_cons_zero]; rfl) ?_ ?_ ?_ ?_ ?_; rotate_left; (focus rfl); (focus (intro W hSW; (try dsimp only at hSW); (try (obtain ⟨hS1, hSW⟩ := hSW)); (try (obtain ⟨hS2, hSW⟩ := hSW)); (try (obtain ⟨hS3, hSW⟩ := hSW)); (try (obtain ⟨hS4, hSW⟩ := hSW)); (try (obtain ⟨hS5, hSW⟩ := hSW)); (try (obtain ⟨hS6, hSW⟩ := hSW)); (try (obtain ⟨hS7, hSW⟩ := hSW)); (try (obtain ⟨hS8, hSW⟩ := hSW)); go_simp; (try with_reducible rfl); done)); (focus exact fun _ _ _ h => h); (focus assumption)) | (refine TR.skip _ (by simp only [List.getElem?_toArray, List.getElem?_cons_succ, List.getElem?_cons_zero]; rfl) ?_ ?_ ?_ ?_; (focus rfl); (focus exact fun _ _ _ h => h); (focus assumption))); simp only [Act.put, List.setIfInBounds_toArray, List.set_cons_zero, List.set_cons_succ])
    refine TR.done ?_
    go_wp2_with (first
      | (refine wpList_store_row rfl 47 (.tmp 4) (.tmp 77) rfl (w.heap.size + 1) #[.int .u64 ((s.send a b bs).1.1 : Int), .int .u64 0, .int .i64 0, .int .i64 0, .int .u64 0, .slice none 0 0, .int .i64 ((s.send a b bs).1.2 : Int)] rfl rfl 47 _ R3.out HI.out rfl (by simp [Value.oneCell']) ?_)
      | fail)
    have RW := Lib.hid (setRow_heap w5 (w.heap.size + 1) _ #[.int .u64 ((s.send a b bs).1.1 : Int), .int .u64 0, .int .i64 0, .int .i64 0, .int .u64 0, .slice none 0 0, .int .i64 ((s.send a b bs).1.2 : Int)] _ _ R3.out)
    have HN3 := Lib.hid (H3.out.setAns R3.out #[.int .u64 ((s.send a b bs).1.1 : Int), .int .u64 0, .int .i64 0, .int .i64 0, .int .u64 0, .slice none 0 0, .int .i64 ((s.send a b bs).1.2 : Int)])
    have HB := Lib.hid (below_setRow B3.out (show base ≤ w.heap.size + 1 by omega) #[.int .u64 ((s.send a b bs).1.1 : Int), .int .u64 0, .int .i64 0, .int .i64 0, .int .u64 0, .slice none 0 0, .int .i64 ((s.send a b bs).1.2 : Int)])
    have HCH := Lib.hid (N3.out.setAns (show w.heap.size ≤ w.heap.size + 1 by omega) #[.int .u64 ((s.send a b bs).1.1 : Int), .int .u64 0, .int .i64 0, .int .i64 0, .int .u64 0, .slice none 0 0, .int .i64 ((s.send a b bs).1.2 : Int)])
    exact bodyPost_ret (results_cell_row Try.results18 _ _ (w.heap.size + 1) _ #[.int .u64 ((s.send a b bs).1.1 : Int), .int .u64 0, .int .i64 0, .int .i64 0, .int .u64 0, .slice none 0 0, .int .i64 ((s.send a b bs).1.2 : Int)] _ _ rfl RW.out Try.underlying47 rfl HI.out) rfl ⟨A5, m5, cc5, v5, none, 0, 0, by rw [HR.out]; rfl, by rw [HR.out]; exact ⟨BOwn.nil_ _ _, Nat.zero_le _⟩, by rw [HR.out]; exact HN3.out, HB.out, HCH.out⟩
end Go.Proofs.Ythajlhifgafpkaa
