/-
  MatrixNames: the chapter's examples.
-/
import Derived.Test.YtikegnnlmfidfaaMatV
import Derived.Test.YtikegnnlmfidfaaMatL
import Derived.Test.YtikegnnlmfidfaaMatR
import Derived.Test.YtikegnnlmfidfaaTextA
namespace Go.Proofs.Ytikegnnlmfidfaa
open Go.RowKit
def NI (W : World) (b n : Nat) (l : List Int) : Prop := IReads W W.heap.size (some ⟨b, 0, none⟩) n l
def NL (W : World) (A : Option Addr) (n : Nat) (P : List (List Int)) : Prop := ∃ ls, LRd W W.heap.size A n ls ∧ ls.map Il.ds = P ∧ n ≤ 17
def NS (W : World) (A : Option Addr) (n : Nat) (l : List ByteArray) : Prop := SReads W W.heap.size A n l ∧ n ≤ 17
theorem NI.below {W W' : World} {b n : Nat} {l : List Int} (h : NI W b n l) (hb : Below W.heap.size W W') : NI W' b n l := Reads.more (Reads.below h hb) hb.size
theorem NL.below {W W' : World} {A : Option Addr} {n : Nat} {P : List (List Int)} (h : NL W A n P) (hb : Below W.heap.size W W') : NL W' A n P := by
  obtain ⟨ls, h1, h2, h3⟩ := h
  exact ⟨ls, (h1.below hb).more hb.size, h2, h3⟩
theorem NS.below {W W' : World} {A : Option Addr} {n : Nat} {l : List ByteArray} (h : NS W A n l) (hb : Below W.heap.size W W') : NS W' A n l := ⟨Reads.more (Reads.below h.1 hb) hb.size, h.2⟩
theorem NI.new (W : World) (e : TypeId) (l : List Int) (n : Nat) (hl : l.length = n) : NI (W.alloc (.cells (l.map (Value.int .i64)).toArray e)) W.heap.size n l :=
  Reads.more (reads_new (w := W) (K := 1) (n := n) (e := e) (l.map (Value.int .i64)) (by simpa using hl)) (by simp)
theorem NS.new (W : World) (e : TypeId) (z : ByteArray) : NS (W.alloc (.cells #[.string z] e)) (some ⟨W.heap.size, 0, none⟩) 1 [z] := ⟨Reads.more (SReads.one e W z) (by simp), by omega⟩
theorem NL.new (W : World) (e : TypeId) {b4 b5 b6 : Nat} (h4 : NI W b4 2 [1, 2]) (h5 : NI W b5 1 [3]) (h6 : NI W b6 1 [4]) : NL (W.alloc (.cells #[.slice (some ⟨b4, 0, none⟩) 2 2, .slice (some ⟨b5, 0, none⟩) 1 1, .slice (some ⟨b6, 0, none⟩) 1 1] e)) (some ⟨W.heap.size, 0, none⟩) 3 [[1, 2], [3], [4]] := by
  have b := (Below.refl W.heap.size W).alloc (Nat.le_refl _) (.cells #[.slice (some ⟨b4, 0, none⟩) 2 2, .slice (some ⟨b5, 0, none⟩) 1 1, .slice (some ⟨b6, 0, none⟩) 1 1] e)
  refine ⟨[(⟨some ⟨b4, 0, none⟩, 2, 2, [1, 2]⟩ : Il), ⟨some ⟨b5, 0, none⟩, 1, 1, [3]⟩, ⟨some ⟨b6, 0, none⟩, 1, 1, [4]⟩], ⟨Reads.more (reads_new (w := W) (K := 1) (n := 3) (e := e) (([(⟨some ⟨b4, 0, none⟩, 2, 2, [1, 2]⟩ : Il), ⟨some ⟨b5, 0, none⟩, 1, 1, [3]⟩, ⟨some ⟨b6, 0, none⟩, 1, 1, [4]⟩]).map Il.v) rfl) (by simp), fun l hl => ?_⟩, rfl, by omega⟩
  simp only [List.mem_cons, List.not_mem_nil, or_false] at hl
  rcases hl with rfl | rfl | rfl
  · exact ⟨h4.below b, by show 2 ≤ 9223372036854775807; omega⟩
  · exact ⟨h5.below b, by show 1 ≤ 9223372036854775807; omega⟩
  · exact ⟨h6.below b, by show 1 ≤ 9223372036854775807; omega⟩
set_option maxRecDepth 100000 in
set_option maxHeartbeats 16000000 in
theorem names_v (w : World) : Calls Try.prog 5 #[] w fun e w' => e = .returned (.bool true) ∧ Below w.heap.size w w' := by
  have HIM := Lib.hid (show (Try.prog.info? 27).map (·.size) = some 2 by kernel_rfl)
  go_enter Try.func5, Try.ntmps5
  go_upto_region 1 with fail
  have TB := Lib.hid (Below.refl w.heap.size w)
  go_wp2_with fail
  refine (add_v w).mono ?_
  rintro e v1 ⟨rfl, b⟩
  replace TB := Lib.hid (TB.out.trans (b.mono TB.out.size))
  clear b
  go_wp2_with fail
  refine (share_v 2 v1).mono ?_
  rintro e v2 ⟨rfl, b⟩
  replace TB := Lib.hid (TB.out.trans (b.mono TB.out.size))
  clear b
  go_wp2_with fail
  refine (made_ex 1 [(1, fF, 0), (3, fF, 2)] 2 m1 ex1 rfl rfl (by omega) (by decide) v2).mono ?_
  rintro e v3 ⟨B1, k1, d1, ts1, rfl, q, hp1, hk1, b⟩
  replace TB := Lib.hid (TB.out.trans (b.mono TB.out.size))
  have Q1 := Lib.hid q
  have HP1 := Lib.hid hp1
  clear b q hp1
  go_wp2_with fail
  refine (add_v v3).mono ?_
  rintro e v4 ⟨rfl, b⟩
  replace TB := Lib.hid (TB.out.trans (b.mono TB.out.size))
  replace Q1 := Lib.hid (RowsR.more (Q1.out.below b) b.size)
  clear b
  go_wp2_with fail
  refine (share_v 1 v4).mono ?_
  rintro e v5 ⟨rfl, b⟩
  replace TB := Lib.hid (TB.out.trans (b.mono TB.out.size))
  replace Q1 := Lib.hid (RowsR.more (Q1.out.below b) b.size)
  clear b
  go_wp2_with fail
  refine (share_v 3 v5).mono ?_
  rintro e v6 ⟨rfl, b⟩
  replace TB := Lib.hid (TB.out.trans (b.mono TB.out.size))
  replace Q1 := Lib.hid (RowsR.more (Q1.out.below b) b.size)
  clear b
  go_wp2_with fail
  refine (made_ex 2 [(1, fF, 0), (3, fF, 1), (3, fF, 3)] 3 m2 ex2 rfl rfl (by omega) (by decide) v6).mono ?_
  rintro e v7 ⟨B2, k2, d2, ts2, rfl, q, hp2, hk2, b⟩
  replace TB := Lib.hid (TB.out.trans (b.mono TB.out.size))
  replace Q1 := Lib.hid (RowsR.more (Q1.out.below b) b.size)
  have Q2 := Lib.hid q
  have HP2 := Lib.hid hp2
  clear b q hp2
  go_wp2_with fail
  refine (add_v v7).mono ?_
  rintro e v8 ⟨rfl, b⟩
  replace TB := Lib.hid (TB.out.trans (b.mono TB.out.size))
  replace Q1 := Lib.hid (RowsR.more (Q1.out.below b) b.size)
  replace Q2 := Lib.hid (RowsR.more (Q2.out.below b) b.size)
  clear b
  go_wp2_with fail
  refine (made_ex 3 [(1, fF, 0)] 1 m3' ex3' rfl rfl (by omega) (by decide) v8).mono ?_
  rintro e v9 ⟨B3, k3, d3, ts3, rfl, q, hp3, hk3, b⟩
  replace TB := Lib.hid (TB.out.trans (b.mono TB.out.size))
  replace Q1 := Lib.hid (RowsR.more (Q1.out.below b) b.size)
  replace Q2 := Lib.hid (RowsR.more (Q2.out.below b) b.size)
  have Q3 := Lib.hid q
  have HP3 := Lib.hid hp3
  clear b q hp3
  go_wp2_with fail
  refine (add_v v9).mono ?_
  rintro e v10 ⟨rfl, b⟩
  replace TB := Lib.hid (TB.out.trans (b.mono TB.out.size))
  replace Q1 := Lib.hid (RowsR.more (Q1.out.below b) b.size)
  replace Q2 := Lib.hid (RowsR.more (Q2.out.below b) b.size)
  replace Q3 := Lib.hid (RowsR.more (Q3.out.below b) b.size)
  clear b
  go_wp2_with fail
  refine (made_ex 4 [(1, fF, 0)] 1 m4 ex4 rfl rfl (by omega) (by decide) v10).mono ?_
  rintro e v11 ⟨B4, k4, d4, ts4, rfl, q, hp4, hk4, b⟩
  replace TB := Lib.hid (TB.out.trans (b.mono TB.out.size))
  replace Q1 := Lib.hid (RowsR.more (Q1.out.below b) b.size)
  replace Q2 := Lib.hid (RowsR.more (Q2.out.below b) b.size)
  replace Q3 := Lib.hid (RowsR.more (Q3.out.below b) b.size)
  have Q4 := Lib.hid q
  have HP4 := Lib.hid hp4
  clear b q hp4
  go_upto_region 2 with fail
  have b := (Below.refl v11.heap.size v11).alloc (Nat.le_refl _) (.cells #[.int .i64 1, .slice B1 k1 d1, .int .i64 2, .slice B2 k2 d2, .int .i64 3, .slice B3 k3 d3, .int .i64 4, .slice B4 k4 d4] 27)
  replace TB := Lib.hid (TB.out.trans (b.mono TB.out.size))
  replace Q1 := Lib.hid (RowsR.more (Q1.out.below b) b.size)
  replace Q2 := Lib.hid (RowsR.more (Q2.out.below b) b.size)
  replace Q3 := Lib.hid (RowsR.more (Q3.out.below b) b.size)
  replace Q4 := Lib.hid (RowsR.more (Q4.out.below b) b.size)
  have HMR := Lib.hid (show MatsR (v11.alloc (.cells #[.int .i64 1, .slice B1 k1 d1, .int .i64 2, .slice B2 k2 d2, .int .i64 3, .slice B3 k3 d3, .int .i64 4, .slice B4 k4 d4] 27)) (v11.alloc (.cells #[.int .i64 1, .slice B1 k1 d1, .int .i64 2, .slice B2 k2 d2, .int .i64 3, .slice B3 k3 d3, .int .i64 4, .slice B4 k4 d4] 27)).heap.size (some ⟨v11.heap.size, 0, none⟩) 4 [(⟨1, B1, k1, d1, ts1⟩ : Mx), ⟨2, B2, k2, d2, ts2⟩, ⟨3, B3, k3, d3, ts3⟩, ⟨4, B4, k4, d4, ts4⟩] from ⟨Reads.more (reads_new (w := v11) (K := 2) (n := 4) (e := 27) ([(⟨1, B1, k1, d1, ts1⟩ : Mx), ⟨2, B2, k2, d2, ts2⟩, ⟨3, B3, k3, d3, ts3⟩, ⟨4, B4, k4, d4, ts4⟩].flatMap Mx.cells) rfl) (by simp), fun m hm => by
    simp only [List.mem_cons, List.not_mem_nil, or_false] at hm
    rcases hm with rfl | rfl | rfl | rfl
    · exact ⟨Q1.out, by show k1 ≤ _; omega⟩
    · exact ⟨Q2.out, by show k2 ≤ _; omega⟩
    · exact ⟨Q3.out, by show k3 ≤ _; omega⟩
    · exact ⟨Q4.out, by show k4 ≤ _; omega⟩⟩)
  have HMP := Lib.hid (show ([(⟨1, B1, k1, d1, ts1⟩ : Mx), ⟨2, B2, k2, d2, ts2⟩, ⟨3, B3, k3, d3, ts3⟩, ⟨4, B4, k4, d4, ts4⟩]).map Mx.p = [m1, m2, m3', m4] by
    simp only [List.map_cons, List.map_nil, Mx.p]
    rw [HP1.out, HP2.out, HP3.out, HP4.out]
    rfl)
  have HX := Lib.hid (heap_alloc_new v11 (.cells #[.int .i64 1, .slice B1 k1 d1, .int .i64 2, .slice B2 k2 d2, .int .i64 3, .slice B3 k3 d3, .int .i64 4, .slice B4 k4 d4] 27))
  have hlt : v11.heap.size < (v11.alloc (.cells #[.int .i64 1, .slice B1 k1 d1, .int .i64 2, .slice B2 k2 d2, .int .i64 3, .slice B3 k3 d3, .int .i64 4, .slice B4 k4 d4] 27)).heap.size := by simp
  clear b Q4
  generalize v11.alloc (.cells #[.int .i64 1, .slice B1 k1 d1, .int .i64 2, .slice B2 k2 d2, .int .i64 3, .slice B3 k3 d3, .int .i64 4, .slice B4 k4 d4] 27) = u0 at *
  generalize v11.heap.size = g9 at *
  obtain ⟨ms, hms⟩ : ∃ ms, [(⟨1, B1, k1, d1, ts1⟩ : Mx), ⟨2, B2, k2, d2, ts2⟩, ⟨3, B3, k3, d3, ts3⟩, ⟨4, B4, k4, d4, ts4⟩] = ms := ⟨_, rfl⟩
  rw [hms] at HMR HMP
  clear hms
  have HC := Lib.hid (show ∀ V, Below u0.heap.size u0 V → V.cell? ⟨g9, 0, none⟩ = some (.int .i64 1) ∧ V.cell? ⟨g9, 1, none⟩ = some (.slice B1 k1 d1) ∧ V.cell? ⟨g9, 2, none⟩ = some (.int .i64 2) ∧ V.cell? ⟨g9, 3, none⟩ = some (.slice B2 k2 d2) ∧ V.cell? ⟨g9, 4, none⟩ = some (.int .i64 3) ∧ V.cell? ⟨g9, 5, none⟩ = some (.slice B3 k3 d3) from fun V h => by
    have hx := (h.block g9 hlt).trans HX.out
    refine ⟨?_, ?_, ?_, ?_, ?_, ?_⟩ <;> (rw [cell_of_row _ _ _ _ _ _ hx]; rfl))
  have HQ := Lib.hid (show ∀ V, Below u0.heap.size u0 V → RowsR V u0.heap.size B1 k1 ts1 ∧ RowsR V u0.heap.size B2 k2 ts2 ∧ RowsR V u0.heap.size B3 k3 ts3 ∧ MatsR V u0.heap.size (some ⟨g9, 0, none⟩) 4 ms ∧ u0.heap.size ≤ V.heap.size ∧ Below w.heap.size w V from fun V h =>
    ⟨Q1.out.below h, Q2.out.below h, Q3.out.below h, HMR.out.below h, h.size, TB.out.trans (h.mono TB.out.size)⟩)
  have T0 := Lib.hid (Below.refl u0.heap.size u0)
  clear HX hlt Q1 Q2 Q3 HMR TB
  generalize u0.heap.size = z at *
  have c0 := (HC.out _ T0.out).1
  have c1 := (HC.out _ T0.out).2.1
  go_wp2_with fail
  refine (apply_e rfl (m := m1) (HQ.out _ T0.out).1 (HQ.out _ T0.out).2.2.2.2.1 HP1.out hk1 (3, fF, 1) (by decide) 2 ex10).mono ?_
  rintro e x1 ⟨o6, A6, n6, c6, rfl, b⟩
  have T1 := Lib.hid (T0.out.trans (b.mono (HQ.out _ T0.out).2.2.2.2.1))
  clear b c0 c1 T0
  go_upto_region 3 with fail
  replace T1 := Lib.hid (T1.out.alloc (HQ.out _ T1.out).2.2.2.2.1 (.cells #[.int .i64 o6, .slice A6 n6 c6] 27))
  generalize x1.alloc (.cells #[.int .i64 o6, .slice A6 n6 c6] 27) = x1b at *
  generalize x1.heap.size = gx1 at *
  go_cut [4, 5] from 6 (fun _ e wx => e = .int .i64 2 ∧ Below z u0 wx)
  case first =>
    have c0 := (HC.out _ T1.out).1
    have c1 := (HC.out _ T1.out).2.1
    go_wp2_with fail
    refine (apply_e rfl (m := m1) (HQ.out _ T1.out).1 (HQ.out _ T1.out).2.2.2.2.1 HP1.out hk1 (1, ⟨#[70]⟩, 0) (by decide) 2 ex11).mono ?_
    rintro e x2 ⟨o6, A6, n6, c6, rfl, b⟩
    have T2 := Lib.hid (T1.out.trans (b.mono (HQ.out _ T1.out).2.2.2.2.1))
    clear b c0 c1 T1
    go_wp2_with fail
    replace T2 := Lib.hid (T2.out.alloc (HQ.out _ T2.out).2.2.2.2.1 (.cells #[.int .i64 o6, .slice A6 n6 c6] 27))
    generalize x2.alloc (.cells #[.int .i64 o6, .slice A6 n6 c6] 27) = x2b at *
    generalize x2.heap.size = gx2 at *
    go_meet
    exact ⟨rfl, T2.out⟩
  case rest =>
  obtain ⟨rfl, hcut⟩ := hcut
  have T2 := Lib.hid hcut
  clear hcut T1
  go_upto_region 4 with fail
  refine wp_region_ta (fun V => V.cell? ⟨g9, 0, none⟩ = some (.int .i64 1) ∧ V.cell? ⟨g9, 1, none⟩ = some (.slice B1 k1 d1) ∧ V.cell? ⟨g9, 2, none⟩ = some (.int .i64 2) ∧ V.cell? ⟨g9, 3, none⟩ = some (.slice B2 k2 d2) ∧ V.cell? ⟨g9, 4, none⟩ = some (.int .i64 3) ∧ V.cell? ⟨g9, 5, none⟩ = some (.slice B3 k3 d3)) 46 #[false, false, false, false, false, false, false, false, false, false, false, false, false, false, false, false, false, false, false, false, false, false, false, false, false, false, false, false, false, false, false, false, false, false, false, false, false, false, false, false, false, false, false, false, false, false] (by kernel_rfl) (by kernel_rfl) (by kernel_rfl) ?_
  have D0 : Below z u0 wc.drew := T2.out.drew
  have hS : wc.drew.cell? ⟨g9, 0, none⟩ = some (.int .i64 1) ∧ wc.drew.cell? ⟨g9, 1, none⟩ = some (.slice B1 k1 d1) ∧ wc.drew.cell? ⟨g9, 2, none⟩ = some (.int .i64 2) ∧ wc.drew.cell? ⟨g9, 3, none⟩ = some (.slice B2 k2 d2) ∧ wc.drew.cell? ⟨g9, 4, none⟩ = some (.int .i64 3) ∧ wc.drew.cell? ⟨g9, 5, none⟩ = some (.slice B3 k3 d3) := HC.out _ D0
  generalize wc.drew = y0 at *
  clear T2
  refine TA.share (X := World × Nat × Nat × Nat × Nat × Option Addr × Nat × Nat) (fun x => Below z u0 x.1 ∧ NI x.1 x.2.1 2 [1, 2] ∧ NI x.1 x.2.2.1 1 [3] ∧ NI x.1 x.2.2.2.1 1 [4] ∧ NL x.1 (some ⟨x.2.2.2.2.1, 0, none⟩) 3 [[1, 2], [3], [4]] ∧ NL x.1 x.2.2.2.2.2.1 x.2.2.2.2.2.2.1 [[1, 2], [3], [4]]) 38 #[true, true, true, true, true, true, true, true, false, false, false, false, false, false, false, false, false, false, false, false, false, false, false, false, false, false, false, false, false, false, false, false, false, false, false, false, false, false, false, false, false, false, false, false, false, false] (fun x => { tmps := #[.bool false, .slice (some ⟨g9, 0, none⟩) 4 4, .pointer (some ⟨gx1, 0, none⟩), .int .i64 2, u4, .int .i64 2, u6, u7, u8, u9, u10, u11, u12, u13, u14, u15, u16, u17, u18, u19, u20, u21, u22, u23, u24, u25, u26, u27, u28, u29, u30, u31, u32, u33, u34, u35, u36, u37, .bool true, .bool true, .slice (some ⟨g9, 0, none⟩) 4 4, .slice x.2.2.2.2.2.1 x.2.2.2.2.2.2.1 x.2.2.2.2.2.2.2, .slice (some ⟨x.2.1, 0, none⟩) 2 2, .slice (some ⟨x.2.2.1, 0, none⟩) 1 1, .slice (some ⟨x.2.2.2.1, 0, none⟩) 1 1, .slice (some ⟨x.2.2.2.2.1, 0, none⟩) 3 3, u46, u47, u48, u49, u50, u51, u52, u53, u54, u55, u56, u57, u58, u59, u60, u61, u62, u63, u64, u65, u66, u67, u68, u69, u70, u71, u72, u73, u74, u75, u76, u77, u78, u79, u80, u81, u82], defers := [] }) (fun x => x.1) ?_ (fun st34567 => ?_)
  · rintro ⟨W, b4, b5, b6, b7, A3, n3, c3⟩ ⟨h0, h4, h5, h6, h7, h3⟩
    (try dsimp only at h0)
    (try dsimp only at h4)
    (try dsimp only at h5)
    (try dsimp only at h6)
    (try dsimp only at h7)
    (try dsimp only at h3)
    dsimp only
    have hS : W.cell? ⟨g9, 0, none⟩ = some (.int .i64 1) ∧ W.cell? ⟨g9, 1, none⟩ = some (.slice B1 k1 d1) ∧ W.cell? ⟨g9, 2, none⟩ = some (.int .i64 2) ∧ W.cell? ⟨g9, 3, none⟩ = some (.slice B2 k2 d2) ∧ W.cell? ⟨g9, 4, none⟩ = some (.int .i64 3) ∧ W.cell? ⟨g9, 5, none⟩ = some (.slice B3 k3 d3) := HC.out W h0
    obtain ⟨ls3, r3, e3, n17⟩ := h3
    obtain ⟨ls7, r7, e7, _⟩ := h7
    refine TA.tree (SK.one 8 true <| .one 9 false <| .one 10 false <| .one 11 false <| .one 12 false <| .one 13 false <| .one 14 false <| .one 15 false <| .one 16 false <| .one 17 false <| .one 18 false <| .one 19 false <| .one 20 false <| .one 21 false <| .one 22 false <| .one 23 false <| .one 24 false <| .one 25 true <| .one 26 false <| .one 27 false <| .one 28 false <| .one 29 false <| .one 30 false <| .one 31 false <| .one 32 false <| .one 33 false <| .one 34 true <| .one 35 false <| .one 36 false <| .one 37 false <| .one 38 false <| .one 39 false <| .one 40 false <| .two 41 (.one 42 true <| .one 43 true <| .one 44 false <| .one 45 false .done) 42 (.one 41 true <| .one 43 true <| .one 44 false <| .one 45 false .done)) (by kernel_rfl) (by kernel_rfl) (by kernel_rfl) ?_
    refine TR.eff _ (by simp only [List.getElem?_toArray, List.getElem?_cons_succ, List.getElem?_cons_zero]; rfl) (by rfl) (fun K hK => ?_); go_simp
    refine (lists_v A3 (some ⟨b7, 0, none⟩) n3 c3 3 3 W.heap.size ls3 ls7 W r3 r7 (Nat.le_refl _) (by omega) (by omega)).mono ?_
    rintro e W1 ⟨rfl, b⟩
    rw [show decide (ls3.map Il.ds = ls7.map Il.ds) = true from decide_eq_true (e3.trans e7.symm)]
    have m1' : Below z u0 W1 := h0.trans (b.mono (HQ.out _ h0).2.2.2.2.1)
    have hS1 := HC.out _ m1'
    clear b r3 r7
    refine hK.out _ _ hS1 ?_
    clear hK hS
    (try simp only [Act.put, List.setIfInBounds_toArray, List.set_cons_zero, List.set_cons_succ])
    have hS := hS1
    clear hS1
    iterate 16 ((first | (refine TR.val2 (v := ?_) _ (by simp only [List.getElem?_toArray, List.getElem?_cons_succ, List.getElem?_cons_zero]; rfl) ?_ ?_ ?_ ?_ ?_; rotate_left; (focus rfl); (focus (intro W hSW; (try dsimp only at hSW); (try (obtain ⟨hS1, hSW⟩ := hSW)); (try (obtain ⟨hS2, hSW⟩ := hSW)); (try (obtain ⟨hS3, hSW⟩ := hSW)); (try (obtain ⟨hS4, hSW⟩ := hSW)); (try (obtain ⟨hS5, hSW⟩ := hSW)); (try (obtain ⟨hS6, hSW⟩ := hSW)); (try (obtain ⟨hS7, hSW⟩ := hSW)); (try (obtain ⟨hS8, hSW⟩ := hSW)); go_simp; (try with_reducible rfl); done)); (focus exact fun _ _ _ h => h); (focus assumption)) | (refine TR.skip _ (by simp only [List.getElem?_toArray, List.getElem?_cons_succ, List.getElem?_cons_zero]; rfl) ?_ ?_ ?_ ?_; (focus rfl); (focus exact fun _ _ _ h => h); (focus assumption))); simp only [Act.put, List.setIfInBounds_toArray, List.set_cons_zero, List.set_cons_succ])
    refine TR.eff _ (by simp only [List.getElem?_toArray, List.getElem?_cons_succ, List.getElem?_cons_zero]; rfl) (by rfl) (fun K hK => ?_); go_simp
    refine (both_v 1 2 B1 B2 k1 d1 k2 d2 z ts1 ts2 fF W1 (HQ.out _ m1').1 (HQ.out _ m1').2.1 (HQ.out _ m1').2.2.2.2.1 (by omega) (by omega)).mono ?_
    rintro e W2 ⟨rfl, b⟩
    rw [show bothP (1, ts1.map Rw.p) (2, ts2.map Rw.p) fF = true by rw [HP1.out, HP2.out]; exact ex12]
    have m2' : Below z u0 W2 := m1'.trans (b.mono (HQ.out _ m1').2.2.2.2.1)
    have hS1 := HC.out _ m2'
    clear b
    refine hK.out _ _ hS1 ?_
    clear hK hS
    (try simp only [Act.put, List.setIfInBounds_toArray, List.set_cons_zero, List.set_cons_succ])
    have hS := hS1
    clear hS1
    iterate 8 ((first | (refine TR.val2 (v := ?_) _ (by simp only [List.getElem?_toArray, List.getElem?_cons_succ, List.getElem?_cons_zero]; rfl) ?_ ?_ ?_ ?_ ?_; rotate_left; (focus rfl); (focus (intro W hSW; (try dsimp only at hSW); (try (obtain ⟨hS1, hSW⟩ := hSW)); (try (obtain ⟨hS2, hSW⟩ := hSW)); (try (obtain ⟨hS3, hSW⟩ := hSW)); (try (obtain ⟨hS4, hSW⟩ := hSW)); (try (obtain ⟨hS5, hSW⟩ := hSW)); (try (obtain ⟨hS6, hSW⟩ := hSW)); (try (obtain ⟨hS7, hSW⟩ := hSW)); (try (obtain ⟨hS8, hSW⟩ := hSW)); go_simp; (try with_reducible rfl); done)); (focus exact fun _ _ _ h => h); (focus assumption)) | (refine TR.skip _ (by simp only [List.getElem?_toArray, List.getElem?_cons_succ, List.getElem?_cons_zero]; rfl) ?_ ?_ ?_ ?_; (focus rfl); (focus exact fun _ _ _ h => h); (focus assumption))); simp only [Act.put, List.setIfInBounds_toArray, List.set_cons_zero, List.set_cons_succ])
    refine TR.eff _ (by simp only [List.getElem?_toArray, List.getElem?_cons_succ, List.getElem?_cons_zero]; rfl) (by rfl) (fun K hK => ?_); go_simp
    refine (both_v 2 3 B2 B3 k2 d2 k3 d3 z ts2 ts3 fF W2 (HQ.out _ m2').2.1 (HQ.out _ m2').2.2.1 (HQ.out _ m2').2.2.2.2.1 (by omega) (by omega)).mono ?_
    rintro e W3 ⟨rfl, b⟩
    rw [show bothP (2, ts2.map Rw.p) (3, ts3.map Rw.p) fF = false by rw [HP2.out, HP3.out]; exact ex13]
    have m3x : Below z u0 W3 := m2'.trans (b.mono (HQ.out _ m2').2.2.2.2.1)
    have hS1 := HC.out _ m3x
    clear b
    refine hK.out _ _ hS1 ?_
    clear hK hS
    (try simp only [Act.put, List.setIfInBounds_toArray, List.set_cons_zero, List.set_cons_succ])
    have hS := hS1
    clear hS1
    iterate 6 ((first | (refine TR.val2 (v := ?_) _ (by simp only [List.getElem?_toArray, List.getElem?_cons_succ, List.getElem?_cons_zero]; rfl) ?_ ?_ ?_ ?_ ?_; rotate_left; (focus rfl); (focus (intro W hSW; (try dsimp only at hSW); (try (obtain ⟨hS1, hSW⟩ := hSW)); (try (obtain ⟨hS2, hSW⟩ := hSW)); (try (obtain ⟨hS3, hSW⟩ := hSW)); (try (obtain ⟨hS4, hSW⟩ := hSW)); (try (obtain ⟨hS5, hSW⟩ := hSW)); (try (obtain ⟨hS6, hSW⟩ := hSW)); (try (obtain ⟨hS7, hSW⟩ := hSW)); (try (obtain ⟨hS8, hSW⟩ := hSW)); go_simp; (try with_reducible rfl); done)); (focus exact fun _ _ _ h => h); (focus assumption)) | (refine TR.skip _ (by simp only [List.getElem?_toArray, List.getElem?_cons_succ, List.getElem?_cons_zero]; rfl) ?_ ?_ ?_ ?_; (focus rfl); (focus exact fun _ _ _ h => h); (focus assumption))); simp only [Act.put, List.setIfInBounds_toArray, List.set_cons_zero, List.set_cons_succ])
    refine TR.two _ _ (by simp only [List.getElem?_toArray, List.getElem?_cons_succ, List.getElem?_cons_zero]; rfl) (by simp only [List.getElem?_toArray, List.getElem?_cons_succ, List.getElem?_cons_zero]; rfl) (by rfl) (by rfl) (fun K hK => ?_) (fun K hK => ?_)
    · go_simp
      refine (with_v 1 B1 k1 d1 z ts1 2 W3 (HQ.out _ m3x).1 (HQ.out _ m3x).2.2.2.2.1 (by omega)).mono ?_
      rintro e W4 ⟨A', n', c', rfl, hsr, _, hn8, b⟩
      have hw : NS W4 A' n' [fF] := ⟨by rw [show withP (1, ts1.map Rw.p) 2 = [fF] by rw [HP1.out]; exact ex14] at hsr; exact hsr, by omega⟩
      clear hsr
      have m4x : Below z u0 W4 := m3x.trans (b.mono (HQ.out _ m3x).2.2.2.2.1)
      have hS1 := HC.out _ m4x
      clear b
      refine hK.out _ _ hS1 ?_
      clear hK hS
      (try simp only [Act.put, List.setIfInBounds_toArray, List.set_cons_zero, List.set_cons_succ])
      have hS := hS1
      clear hS1
      refine TR.eff _ (by simp only [List.getElem?_toArray, List.getElem?_cons_succ, List.getElem?_cons_zero]; rfl) (by rfl) (fun K hK => ?_); go_simp
      have b := (Below.refl W4.heap.size W4).alloc (Nat.le_refl _) (.cells #[.string ⟨#[102]⟩] 9)
      have hq : NS (W4.alloc (.cells #[.string ⟨#[102]⟩] 9)) (some ⟨W4.heap.size, 0, none⟩) 1 [fF] := NS.new W4 9 fF
      replace hw := hw.below b
      have m5x : Below z u0 (W4.alloc (.cells #[.string ⟨#[102]⟩] 9)) := m4x.trans (b.mono (HQ.out _ m4x).2.2.2.2.1)
      have hS1 := HC.out _ m5x
      clear b
      refine hK.out _ _ hS1 ?_
      clear hK hS
      (try simp only [Act.put, List.setIfInBounds_toArray, List.set_cons_zero, List.set_cons_succ])
      have hS := hS1
      clear hS1
      generalize W4.alloc (.cells #[.string ⟨#[102]⟩] 9) = W5 at *
      generalize W4.heap.size = gq at *
      refine TR.eff _ (by simp only [List.getElem?_toArray, List.getElem?_cons_succ, List.getElem?_cons_zero]; rfl) (by rfl) (fun K hK => ?_); go_simp
      refine (texts_v A' (some ⟨gq, 0, none⟩) n' c' 1 1 W5.heap.size [fF] [fF] W5 hw.1 hq.1 (by have := hw.2; omega) (by omega)).mono ?_
      rintro e W9 ⟨rfl, b⟩
      rw [show decide (([fF] : List ByteArray) = [fF]) = true from decide_eq_true rfl]
      have m9 : Below z u0 W9 := m5x.trans (b.mono (HQ.out _ m5x).2.2.2.2.1)
      have hS1 := HC.out _ m9
      clear b
      refine hK.out _ _ hS1 ?_
      clear hK hS
      (try simp only [Act.put, List.setIfInBounds_toArray, List.set_cons_zero, List.set_cons_succ])
      have hS := hS1
      clear hS1
      iterate 2 ((first | (refine TR.val2 (v := ?_) _ (by simp only [List.getElem?_toArray, List.getElem?_cons_succ, List.getElem?_cons_zero]; rfl) ?_ ?_ ?_ ?_ ?_; rotate_left; (focus rfl); (focus (intro W hSW; (try dsimp only at hSW); (try (obtain ⟨hS1, hSW⟩ := hSW)); (try (obtain ⟨hS2, hSW⟩ := hSW)); (try (obtain ⟨hS3, hSW⟩ := hSW)); (try (obtain ⟨hS4, hSW⟩ := hSW)); (try (obtain ⟨hS5, hSW⟩ := hSW)); (try (obtain ⟨hS6, hSW⟩ := hSW)); (try (obtain ⟨hS7, hSW⟩ := hSW)); (try (obtain ⟨hS8, hSW⟩ := hSW)); go_simp; (try with_reducible rfl); done)); (focus exact fun _ _ _ h => h); (focus assumption)) | (refine TR.skip _ (by simp only [List.getElem?_toArray, List.getElem?_cons_succ, List.getElem?_cons_zero]; rfl) ?_ ?_ ?_ ?_; (focus rfl); (focus exact fun _ _ _ h => h); (focus assumption))); simp only [Act.put, List.setIfInBounds_toArray, List.set_cons_zero, List.set_cons_succ])
      refine TR.done ?_
      clear hS
      go_wp2_with fail
      go_ret
      exact ⟨rfl, (HQ.out _ m9).2.2.2.2.2⟩
    · go_simp
      have b := (Below.refl W3.heap.size W3).alloc (Nat.le_refl _) (.cells #[.string ⟨#[102]⟩] 9)
      have hq : NS (W3.alloc (.cells #[.string ⟨#[102]⟩] 9)) (some ⟨W3.heap.size, 0, none⟩) 1 [fF] := NS.new W3 9 fF
      have m4x : Below z u0 (W3.alloc (.cells #[.string ⟨#[102]⟩] 9)) := m3x.trans (b.mono (HQ.out _ m3x).2.2.2.2.1)
      have hS1 := HC.out _ m4x
      clear b
      refine hK.out _ _ hS1 ?_
      clear hK hS
      (try simp only [Act.put, List.setIfInBounds_toArray, List.set_cons_zero, List.set_cons_succ])
      have hS := hS1
      clear hS1
      generalize W3.alloc (.cells #[.string ⟨#[102]⟩] 9) = W4 at *
      generalize W3.heap.size = gq at *
      refine TR.eff _ (by simp only [List.getElem?_toArray, List.getElem?_cons_succ, List.getElem?_cons_zero]; rfl) (by rfl) (fun K hK => ?_); go_simp
      refine (with_v 1 B1 k1 d1 z ts1 2 W4 (HQ.out _ m4x).1 (HQ.out _ m4x).2.2.2.2.1 (by omega)).mono ?_
      rintro e W5 ⟨A', n', c', rfl, hsr, _, hn8, b⟩
      have hw : NS W5 A' n' [fF] := ⟨by rw [show withP (1, ts1.map Rw.p) 2 = [fF] by rw [HP1.out]; exact ex14] at hsr; exact hsr, by omega⟩
      clear hsr
      replace hq := hq.below b
      have m5x : Below z u0 W5 := m4x.trans (b.mono (HQ.out _ m4x).2.2.2.2.1)
      have hS1 := HC.out _ m5x
      clear b
      refine hK.out _ _ hS1 ?_
      clear hK hS
      (try simp only [Act.put, List.setIfInBounds_toArray, List.set_cons_zero, List.set_cons_succ])
      have hS := hS1
      clear hS1
      refine TR.eff _ (by simp only [List.getElem?_toArray, List.getElem?_cons_succ, List.getElem?_cons_zero]; rfl) (by rfl) (fun K hK => ?_); go_simp
      refine (texts_v A' (some ⟨gq, 0, none⟩) n' c' 1 1 W5.heap.size [fF] [fF] W5 hw.1 hq.1 (by have := hw.2; omega) (by omega)).mono ?_
      rintro e W9 ⟨rfl, b⟩
      rw [show decide (([fF] : List ByteArray) = [fF]) = true from decide_eq_true rfl]
      have m9 : Below z u0 W9 := m5x.trans (b.mono (HQ.out _ m5x).2.2.2.2.1)
      have hS1 := HC.out _ m9
      clear b
      refine hK.out _ _ hS1 ?_
      clear hK hS
      (try simp only [Act.put, List.setIfInBounds_toArray, List.set_cons_zero, List.set_cons_succ])
      have hS := hS1
      clear hS1
      iterate 2 ((first | (refine TR.val2 (v := ?_) _ (by simp only [List.getElem?_toArray, List.getElem?_cons_succ, List.getElem?_cons_zero]; rfl) ?_ ?_ ?_ ?_ ?_; rotate_left; (focus rfl); (focus (intro W hSW; (try dsimp only at hSW); (try (obtain ⟨hS1, hSW⟩ := hSW)); (try (obtain ⟨hS2, hSW⟩ := hSW)); (try (obtain ⟨hS3, hSW⟩ := hSW)); (try (obtain ⟨hS4, hSW⟩ := hSW)); (try (obtain ⟨hS5, hSW⟩ := hSW)); (try (obtain ⟨hS6, hSW⟩ := hSW)); (try (obtain ⟨hS7, hSW⟩ := hSW)); (try (obtain ⟨hS8, hSW⟩ := hSW)); go_simp; (try with_reducible rfl); done)); (focus exact fun _ _ _ h => h); (focus assumption)) | (refine TR.skip _ (by simp only [List.getElem?_toArray, List.getElem?_cons_succ, List.getElem?_cons_zero]; rfl) ?_ ?_ ?_ ?_; (focus rfl); (focus exact fun _ _ _ h => h); (focus assumption))); simp only [Act.put, List.setIfInBounds_toArray, List.set_cons_zero, List.set_cons_succ])
      refine TR.done ?_
      clear hS
      go_wp2_with fail
      go_ret
      exact ⟨rfl, (HQ.out _ m9).2.2.2.2.2⟩
  refine TA.share (X := World × Nat × Nat × Nat × Nat × Option Addr × Nat × Nat) (fun x => Below z u0 x.1 ∧ NI x.1 x.2.1 2 [1, 2] ∧ NI x.1 x.2.2.1 1 [3] ∧ NI x.1 x.2.2.2.1 1 [4] ∧ NL x.1 x.2.2.2.2.2.1 x.2.2.2.2.2.2.1 [[1, 2], [3], [4]]) 39 #[true, true, true, true, true, true, true, false, false, false, false, false, false, false, false, false, false, false, false, false, false, false, false, false, false, false, false, false, false, false, false, false, false, false, false, false, false, false, false, false, false, false, false, false, false, false] (fun x => { tmps := #[.bool false, .slice (some ⟨g9, 0, none⟩) 4 4, .pointer (some ⟨gx1, 0, none⟩), .int .i64 2, u4, .int .i64 2, u6, u7, u8, u9, u10, u11, u12, u13, u14, u15, u16, u17, u18, u19, u20, u21, u22, u23, u24, u25, u26, u27, u28, u29, u30, u31, u32, u33, u34, u35, u36, u37, .bool true, .bool true, .slice (some ⟨g9, 0, none⟩) 4 4, .slice x.2.2.2.2.2.1 x.2.2.2.2.2.2.1 x.2.2.2.2.2.2.2, .slice (some ⟨x.2.1, 0, none⟩) 2 2, .slice (some ⟨x.2.2.1, 0, none⟩) 1 1, .slice (some ⟨x.2.2.2.1, 0, none⟩) 1 1, u45, u46, u47, u48, u49, u50, u51, u52, u53, u54, u55, u56, u57, u58, u59, u60, u61, u62, u63, u64, u65, u66, u67, u68, u69, u70, u71, u72, u73, u74, u75, u76, u77, u78, u79, u80, u81, u82], defers := [] }) (fun x => x.1) ?_ (fun st3456 => ?_)
  · rintro ⟨W, b4, b5, b6, b7, A3, n3, c3⟩ ⟨h0, h4, h5, h6, h3⟩
    (try dsimp only at h0)
    (try dsimp only at h4)
    (try dsimp only at h5)
    (try dsimp only at h6)
    (try dsimp only at h3)
    dsimp only
    have hS : W.cell? ⟨g9, 0, none⟩ = some (.int .i64 1) ∧ W.cell? ⟨g9, 1, none⟩ = some (.slice B1 k1 d1) ∧ W.cell? ⟨g9, 2, none⟩ = some (.int .i64 2) ∧ W.cell? ⟨g9, 3, none⟩ = some (.slice B2 k2 d2) ∧ W.cell? ⟨g9, 4, none⟩ = some (.int .i64 3) ∧ W.cell? ⟨g9, 5, none⟩ = some (.slice B3 k3 d3) := HC.out W h0
    refine TA.all1 7 (by kernel_rfl) ?_
    refine ⟨_, (by simp only [List.getElem?_toArray, List.getElem?_cons_succ, List.getElem?_cons_zero]; rfl), by rfl, fun K hK => ?_⟩
    go_simp
    have b := (Below.refl W.heap.size W).alloc (Nat.le_refl _) (.cells #[.slice (some ⟨b4, 0, none⟩) 2 2, .slice (some ⟨b5, 0, none⟩) 1 1, .slice (some ⟨b6, 0, none⟩) 1 1] 35)
    have hnew : NL (W.alloc (.cells #[.slice (some ⟨b4, 0, none⟩) 2 2, .slice (some ⟨b5, 0, none⟩) 1 1, .slice (some ⟨b6, 0, none⟩) 1 1] 35)) (some ⟨W.heap.size, 0, none⟩) 3 [[1, 2], [3], [4]] := NL.new W 35 h4 h5 h6
    have k0 : Below z u0 (W.alloc (.cells #[.slice (some ⟨b4, 0, none⟩) 2 2, .slice (some ⟨b5, 0, none⟩) 1 1, .slice (some ⟨b6, 0, none⟩) 1 1] 35)) := h0.trans (b.mono (HQ.out _ h0).2.2.2.2.1)
    refine hK.out _ _ (HC.out _ k0) ?_
    clear hK
    (try simp only [Act.put, List.setIfInBounds_toArray, List.set_cons_zero, List.set_cons_succ])
    exact st34567.out ((W.alloc (.cells #[.slice (some ⟨b4, 0, none⟩) 2 2, .slice (some ⟨b5, 0, none⟩) 1 1, .slice (some ⟨b6, 0, none⟩) 1 1] 35)), b4, b5, b6, W.heap.size, A3, n3, c3) ⟨k0, h4.below b, h5.below b, h6.below b, hnew, h3.below b⟩
  refine TA.share (X := World × Nat × Nat × Nat × Nat × Option Addr × Nat × Nat) (fun x => Below z u0 x.1 ∧ NI x.1 x.2.1 2 [1, 2] ∧ NI x.1 x.2.2.1 1 [3] ∧ NI x.1 x.2.2.2.1 1 [4] ∧ NL x.1 (some ⟨x.2.2.2.2.1, 0, none⟩) 3 [[1, 2], [3], [4]]) 39 #[true, true, true, false, true, true, true, true, false, false, false, false, false, false, false, false, false, false, false, false, false, false, false, false, false, false, false, false, false, false, false, false, false, false, false, false, false, false, false, false, false, false, false, false, false, false] (fun x => { tmps := #[.bool false, .slice (some ⟨g9, 0, none⟩) 4 4, .pointer (some ⟨gx1, 0, none⟩), .int .i64 2, u4, .int .i64 2, u6, u7, u8, u9, u10, u11, u12, u13, u14, u15, u16, u17, u18, u19, u20, u21, u22, u23, u24, u25, u26, u27, u28, u29, u30, u31, u32, u33, u34, u35, u36, u37, .bool true, .bool true, .slice (some ⟨g9, 0, none⟩) 4 4, u41, .slice (some ⟨x.2.1, 0, none⟩) 2 2, .slice (some ⟨x.2.2.1, 0, none⟩) 1 1, .slice (some ⟨x.2.2.2.1, 0, none⟩) 1 1, .slice (some ⟨x.2.2.2.2.1, 0, none⟩) 3 3, u46, u47, u48, u49, u50, u51, u52, u53, u54, u55, u56, u57, u58, u59, u60, u61, u62, u63, u64, u65, u66, u67, u68, u69, u70, u71, u72, u73, u74, u75, u76, u77, u78, u79, u80, u81, u82], defers := [] }) (fun x => x.1) ?_ (fun st4567 => ?_)
  · rintro ⟨W, b4, b5, b6, b7, A3, n3, c3⟩ ⟨h0, h4, h5, h6, h7⟩
    (try dsimp only at h0)
    (try dsimp only at h4)
    (try dsimp only at h5)
    (try dsimp only at h6)
    (try dsimp only at h7)
    dsimp only
    have hS : W.cell? ⟨g9, 0, none⟩ = some (.int .i64 1) ∧ W.cell? ⟨g9, 1, none⟩ = some (.slice B1 k1 d1) ∧ W.cell? ⟨g9, 2, none⟩ = some (.int .i64 2) ∧ W.cell? ⟨g9, 3, none⟩ = some (.slice B2 k2 d2) ∧ W.cell? ⟨g9, 4, none⟩ = some (.int .i64 3) ∧ W.cell? ⟨g9, 5, none⟩ = some (.slice B3 k3 d3) := HC.out W h0
    refine TA.all1 3 (by kernel_rfl) ?_
    refine ⟨_, (by simp only [List.getElem?_toArray, List.getElem?_cons_succ, List.getElem?_cons_zero]; rfl), by rfl, fun K hK => ?_⟩
    go_simp
    refine (parts_v (some ⟨g9, 0, none⟩) 4 4 z ms fF W (HQ.out _ h0).2.2.2.1 (HQ.out _ h0).2.2.2.2.1 (by omega)).mono ?_
    rintro e W2 ⟨A', n', c', ls, rfl, ⟨base, _, hol⟩, hds, hn', hle, b⟩
    have hnew : NL W2 A' n' [[1, 2], [3], [4]] := ⟨ls, hol.reads fun l hl => (by have := hle l hl; omega), (by rw [hds, HMP.out]; exact ex9), hn'⟩
    have k0 : Below z u0 W2 := h0.trans (b.mono (HQ.out _ h0).2.2.2.2.1)
    refine hK.out _ _ (HC.out _ k0) ?_
    clear hK
    (try simp only [Act.put, List.setIfInBounds_toArray, List.set_cons_zero, List.set_cons_succ])
    exact st34567.out (W2, b4, b5, b6, b7, A', n', c') ⟨k0, h4.below b, h5.below b, h6.below b, h7.below b, hnew⟩
  refine TA.share (X := World × Nat × Nat × Nat × Nat × Option Addr × Nat × Nat) (fun x => Below z u0 x.1 ∧ NI x.1 x.2.1 2 [1, 2] ∧ NI x.1 x.2.2.1 1 [3] ∧ NL x.1 x.2.2.2.2.2.1 x.2.2.2.2.2.2.1 [[1, 2], [3], [4]]) 40 #[true, true, true, true, true, true, false, false, false, false, false, false, false, false, false, false, false, false, false, false, false, false, false, false, false, false, false, false, false, false, false, false, false, false, false, false, false, false, false, false, false, false, false, false, false, false] (fun x => { tmps := #[.bool false, .slice (some ⟨g9, 0, none⟩) 4 4, .pointer (some ⟨gx1, 0, none⟩), .int .i64 2, u4, .int .i64 2, u6, u7, u8, u9, u10, u11, u12, u13, u14, u15, u16, u17, u18, u19, u20, u21, u22, u23, u24, u25, u26, u27, u28, u29, u30, u31, u32, u33, u34, u35, u36, u37, .bool true, .bool true, .slice (some ⟨g9, 0, none⟩) 4 4, .slice x.2.2.2.2.2.1 x.2.2.2.2.2.2.1 x.2.2.2.2.2.2.2, .slice (some ⟨x.2.1, 0, none⟩) 2 2, .slice (some ⟨x.2.2.1, 0, none⟩) 1 1, u44, u45, u46, u47, u48, u49, u50, u51, u52, u53, u54, u55, u56, u57, u58, u59, u60, u61, u62, u63, u64, u65, u66, u67, u68, u69, u70, u71, u72, u73, u74, u75, u76, u77, u78, u79, u80, u81, u82], defers := [] }) (fun x => x.1) ?_ (fun st345 => ?_)
  · rintro ⟨W, b4, b5, b6, b7, A3, n3, c3⟩ ⟨h0, h4, h5, h3⟩
    (try dsimp only at h0)
    (try dsimp only at h4)
    (try dsimp only at h5)
    (try dsimp only at h3)
    dsimp only
    have hS : W.cell? ⟨g9, 0, none⟩ = some (.int .i64 1) ∧ W.cell? ⟨g9, 1, none⟩ = some (.slice B1 k1 d1) ∧ W.cell? ⟨g9, 2, none⟩ = some (.int .i64 2) ∧ W.cell? ⟨g9, 3, none⟩ = some (.slice B2 k2 d2) ∧ W.cell? ⟨g9, 4, none⟩ = some (.int .i64 3) ∧ W.cell? ⟨g9, 5, none⟩ = some (.slice B3 k3 d3) := HC.out W h0
    refine TA.all1 6 (by kernel_rfl) ?_
    refine ⟨_, (by simp only [List.getElem?_toArray, List.getElem?_cons_succ, List.getElem?_cons_zero]; rfl), by rfl, fun K hK => ?_⟩
    go_simp
    have b := (Below.refl W.heap.size W).alloc (Nat.le_refl _) (.cells #[.int .i64 4] 3)
    have hnew : NI (W.alloc (.cells #[.int .i64 4] 3)) W.heap.size 1 [4] := NI.new W 3 [4] 1 rfl
    have k0 : Below z u0 (W.alloc (.cells #[.int .i64 4] 3)) := h0.trans (b.mono (HQ.out _ h0).2.2.2.2.1)
    refine hK.out _ _ (HC.out _ k0) ?_
    clear hK
    (try simp only [Act.put, List.setIfInBounds_toArray, List.set_cons_zero, List.set_cons_succ])
    exact st3456.out ((W.alloc (.cells #[.int .i64 4] 3)), b4, b5, W.heap.size, b7, A3, n3, c3) ⟨k0, h4.below b, h5.below b, hnew, h3.below b⟩
  refine TA.share (X := World × Nat × Nat × Nat × Nat × Option Addr × Nat × Nat) (fun x => Below z u0 x.1 ∧ NI x.1 x.2.1 2 [1, 2] ∧ NI x.1 x.2.2.2.1 1 [4] ∧ NL x.1 x.2.2.2.2.2.1 x.2.2.2.2.2.2.1 [[1, 2], [3], [4]]) 40 #[true, true, true, true, true, false, true, false, false, false, false, false, false, false, false, false, false, false, false, false, false, false, false, false, false, false, false, false, false, false, false, false, false, false, false, false, false, false, false, false, false, false, false, false, false, false] (fun x => { tmps := #[.bool false, .slice (some ⟨g9, 0, none⟩) 4 4, .pointer (some ⟨gx1, 0, none⟩), .int .i64 2, u4, .int .i64 2, u6, u7, u8, u9, u10, u11, u12, u13, u14, u15, u16, u17, u18, u19, u20, u21, u22, u23, u24, u25, u26, u27, u28, u29, u30, u31, u32, u33, u34, u35, u36, u37, .bool true, .bool true, .slice (some ⟨g9, 0, none⟩) 4 4, .slice x.2.2.2.2.2.1 x.2.2.2.2.2.2.1 x.2.2.2.2.2.2.2, .slice (some ⟨x.2.1, 0, none⟩) 2 2, u43, .slice (some ⟨x.2.2.2.1, 0, none⟩) 1 1, u45, u46, u47, u48, u49, u50, u51, u52, u53, u54, u55, u56, u57, u58, u59, u60, u61, u62, u63, u64, u65, u66, u67, u68, u69, u70, u71, u72, u73, u74, u75, u76, u77, u78, u79, u80, u81, u82], defers := [] }) (fun x => x.1) ?_ (fun st346 => ?_)
  · rintro ⟨W, b4, b5, b6, b7, A3, n3, c3⟩ ⟨h0, h4, h6, h3⟩
    (try dsimp only at h0)
    (try dsimp only at h4)
    (try dsimp only at h6)
    (try dsimp only at h3)
    dsimp only
    have hS : W.cell? ⟨g9, 0, none⟩ = some (.int .i64 1) ∧ W.cell? ⟨g9, 1, none⟩ = some (.slice B1 k1 d1) ∧ W.cell? ⟨g9, 2, none⟩ = some (.int .i64 2) ∧ W.cell? ⟨g9, 3, none⟩ = some (.slice B2 k2 d2) ∧ W.cell? ⟨g9, 4, none⟩ = some (.int .i64 3) ∧ W.cell? ⟨g9, 5, none⟩ = some (.slice B3 k3 d3) := HC.out W h0
    refine TA.all1 5 (by kernel_rfl) ?_
    refine ⟨_, (by simp only [List.getElem?_toArray, List.getElem?_cons_succ, List.getElem?_cons_zero]; rfl), by rfl, fun K hK => ?_⟩
    go_simp
    have b := (Below.refl W.heap.size W).alloc (Nat.le_refl _) (.cells #[.int .i64 3] 3)
    have hnew : NI (W.alloc (.cells #[.int .i64 3] 3)) W.heap.size 1 [3] := NI.new W 3 [3] 1 rfl
    have k0 : Below z u0 (W.alloc (.cells #[.int .i64 3] 3)) := h0.trans (b.mono (HQ.out _ h0).2.2.2.2.1)
    refine hK.out _ _ (HC.out _ k0) ?_
    clear hK
    (try simp only [Act.put, List.setIfInBounds_toArray, List.set_cons_zero, List.set_cons_succ])
    exact st3456.out ((W.alloc (.cells #[.int .i64 3] 3)), b4, W.heap.size, b6, b7, A3, n3, c3) ⟨k0, h4.below b, hnew, h6.below b, h3.below b⟩
  refine TA.share (X := World × Nat × Nat × Nat × Nat × Option Addr × Nat × Nat) (fun x => Below z u0 x.1 ∧ NI x.1 x.2.2.1 1 [3] ∧ NI x.1 x.2.2.2.1 1 [4] ∧ NL x.1 x.2.2.2.2.2.1 x.2.2.2.2.2.2.1 [[1, 2], [3], [4]]) 40 #[true, true, true, true, false, true, true, false, false, false, false, false, false, false, false, false, false, false, false, false, false, false, false, false, false, false, false, false, false, false, false, false, false, false, false, false, false, false, false, false, false, false, false, false, false, false] (fun x => { tmps := #[.bool false, .slice (some ⟨g9, 0, none⟩) 4 4, .pointer (some ⟨gx1, 0, none⟩), .int .i64 2, u4, .int .i64 2, u6, u7, u8, u9, u10, u11, u12, u13, u14, u15, u16, u17, u18, u19, u20, u21, u22, u23, u24, u25, u26, u27, u28, u29, u30, u31, u32, u33, u34, u35, u36, u37, .bool true, .bool true, .slice (some ⟨g9, 0, none⟩) 4 4, .slice x.2.2.2.2.2.1 x.2.2.2.2.2.2.1 x.2.2.2.2.2.2.2, u42, .slice (some ⟨x.2.2.1, 0, none⟩) 1 1, .slice (some ⟨x.2.2.2.1, 0, none⟩) 1 1, u45, u46, u47, u48, u49, u50, u51, u52, u53, u54, u55, u56, u57, u58, u59, u60, u61, u62, u63, u64, u65, u66, u67, u68, u69, u70, u71, u72, u73, u74, u75, u76, u77, u78, u79, u80, u81, u82], defers := [] }) (fun x => x.1) ?_ (fun st356 => ?_)
  · rintro ⟨W, b4, b5, b6, b7, A3, n3, c3⟩ ⟨h0, h5, h6, h3⟩
    (try dsimp only at h0)
    (try dsimp only at h5)
    (try dsimp only at h6)
    (try dsimp only at h3)
    dsimp only
    have hS : W.cell? ⟨g9, 0, none⟩ = some (.int .i64 1) ∧ W.cell? ⟨g9, 1, none⟩ = some (.slice B1 k1 d1) ∧ W.cell? ⟨g9, 2, none⟩ = some (.int .i64 2) ∧ W.cell? ⟨g9, 3, none⟩ = some (.slice B2 k2 d2) ∧ W.cell? ⟨g9, 4, none⟩ = some (.int .i64 3) ∧ W.cell? ⟨g9, 5, none⟩ = some (.slice B3 k3 d3) := HC.out W h0
    refine TA.all1 4 (by kernel_rfl) ?_
    refine ⟨_, (by simp only [List.getElem?_toArray, List.getElem?_cons_succ, List.getElem?_cons_zero]; rfl), by rfl, fun K hK => ?_⟩
    go_simp
    have b := (Below.refl W.heap.size W).alloc (Nat.le_refl _) (.cells #[.int .i64 1, .int .i64 2] 3)
    have hnew : NI (W.alloc (.cells #[.int .i64 1, .int .i64 2] 3)) W.heap.size 2 [1, 2] := NI.new W 3 [1, 2] 2 rfl
    have k0 : Below z u0 (W.alloc (.cells #[.int .i64 1, .int .i64 2] 3)) := h0.trans (b.mono (HQ.out _ h0).2.2.2.2.1)
    refine hK.out _ _ (HC.out _ k0) ?_
    clear hK
    (try simp only [Act.put, List.setIfInBounds_toArray, List.set_cons_zero, List.set_cons_succ])
    exact st3456.out ((W.alloc (.cells #[.int .i64 1, .int .i64 2] 3)), W.heap.size, b5, b6, b7, A3, n3, c3) ⟨k0, hnew, h5.below b, h6.below b, h3.below b⟩
  refine TA.share (X := World × Nat × Nat × Nat × Nat × Option Addr × Nat × Nat) (fun x => Below z u0 x.1 ∧ NI x.1 x.2.1 2 [1, 2] ∧ NI x.1 x.2.2.1 1 [3] ∧ NI x.1 x.2.2.2.1 1 [4]) 40 #[true, true, true, false, true, true, true, false, false, false, false, false, false, false, false, false, false, false, false, false, false, false, false, false, false, false, false, false, false, false, false, false, false, false, false, false, false, false, false, false, false, false, false, false, false, false] (fun x => { tmps := #[.bool false, .slice (some ⟨g9, 0, none⟩) 4 4, .pointer (some ⟨gx1, 0, none⟩), .int .i64 2, u4, .int .i64 2, u6, u7, u8, u9, u10, u11, u12, u13, u14, u15, u16, u17, u18, u19, u20, u21, u22, u23, u24, u25, u26, u27, u28, u29, u30, u31, u32, u33, u34, u35, u36, u37, .bool true, .bool true, .slice (some ⟨g9, 0, none⟩) 4 4, u41, .slice (some ⟨x.2.1, 0, none⟩) 2 2, .slice (some ⟨x.2.2.1, 0, none⟩) 1 1, .slice (some ⟨x.2.2.2.1, 0, none⟩) 1 1, u45, u46, u47, u48, u49, u50, u51, u52, u53, u54, u55, u56, u57, u58, u59, u60, u61, u62, u63, u64, u65, u66, u67, u68, u69, u70, u71, u72, u73, u74, u75, u76, u77, u78, u79, u80, u81, u82], defers := [] }) (fun x => x.1) ?_ (fun st456 => ?_)
  · rintro ⟨W, b4, b5, b6, b7, A3, n3, c3⟩ ⟨h0, h4, h5, h6⟩
    (try dsimp only at h0)
    (try dsimp only at h4)
    (try dsimp only at h5)
    (try dsimp only at h6)
    dsimp only
    have hS : W.cell? ⟨g9, 0, none⟩ = some (.int .i64 1) ∧ W.cell? ⟨g9, 1, none⟩ = some (.slice B1 k1 d1) ∧ W.cell? ⟨g9, 2, none⟩ = some (.int .i64 2) ∧ W.cell? ⟨g9, 3, none⟩ = some (.slice B2 k2 d2) ∧ W.cell? ⟨g9, 4, none⟩ = some (.int .i64 3) ∧ W.cell? ⟨g9, 5, none⟩ = some (.slice B3 k3 d3) := HC.out W h0
    refine TA.all2 3 7 (by kernel_rfl) ?_ ?_
    · refine ⟨_, (by simp only [List.getElem?_toArray, List.getElem?_cons_succ, List.getElem?_cons_zero]; rfl), by rfl, fun K hK => ?_⟩
      go_simp
      refine (parts_v (some ⟨g9, 0, none⟩) 4 4 z ms fF W (HQ.out _ h0).2.2.2.1 (HQ.out _ h0).2.2.2.2.1 (by omega)).mono ?_
      rintro e W2 ⟨A', n', c', ls, rfl, ⟨base, _, hol⟩, hds, hn', hle, b⟩
      have hnew : NL W2 A' n' [[1, 2], [3], [4]] := ⟨ls, hol.reads fun l hl => (by have := hle l hl; omega), (by rw [hds, HMP.out]; exact ex9), hn'⟩
      have k0 : Below z u0 W2 := h0.trans (b.mono (HQ.out _ h0).2.2.2.2.1)
      refine hK.out _ _ (HC.out _ k0) ?_
      clear hK
      (try simp only [Act.put, List.setIfInBounds_toArray, List.set_cons_zero, List.set_cons_succ])
      exact st3456.out (W2, b4, b5, b6, b7, A', n', c') ⟨k0, h4.below b, h5.below b, h6.below b, hnew⟩
    · refine ⟨_, (by simp only [List.getElem?_toArray, List.getElem?_cons_succ, List.getElem?_cons_zero]; rfl), by rfl, fun K hK => ?_⟩
      go_simp
      have b := (Below.refl W.heap.size W).alloc (Nat.le_refl _) (.cells #[.slice (some ⟨b4, 0, none⟩) 2 2, .slice (some ⟨b5, 0, none⟩) 1 1, .slice (some ⟨b6, 0, none⟩) 1 1] 35)
      have hnew : NL (W.alloc (.cells #[.slice (some ⟨b4, 0, none⟩) 2 2, .slice (some ⟨b5, 0, none⟩) 1 1, .slice (some ⟨b6, 0, none⟩) 1 1] 35)) (some ⟨W.heap.size, 0, none⟩) 3 [[1, 2], [3], [4]] := NL.new W 35 h4 h5 h6
      have k0 : Below z u0 (W.alloc (.cells #[.slice (some ⟨b4, 0, none⟩) 2 2, .slice (some ⟨b5, 0, none⟩) 1 1, .slice (some ⟨b6, 0, none⟩) 1 1] 35)) := h0.trans (b.mono (HQ.out _ h0).2.2.2.2.1)
      refine hK.out _ _ (HC.out _ k0) ?_
      clear hK
      (try simp only [Act.put, List.setIfInBounds_toArray, List.set_cons_zero, List.set_cons_succ])
      exact st4567.out ((W.alloc (.cells #[.slice (some ⟨b4, 0, none⟩) 2 2, .slice (some ⟨b5, 0, none⟩) 1 1, .slice (some ⟨b6, 0, none⟩) 1 1] 35)), b4, b5, b6, W.heap.size, A3, n3, c3) ⟨k0, h4.below b, h5.below b, h6.below b, hnew⟩
  refine TA.share (X := World × Nat × Nat × Nat × Nat × Option Addr × Nat × Nat) (fun x => Below z u0 x.1 ∧ NI x.1 x.2.1 2 [1, 2] ∧ NL x.1 x.2.2.2.2.2.1 x.2.2.2.2.2.2.1 [[1, 2], [3], [4]]) 41 #[true, true, true, true, true, false, false, false, false, false, false, false, false, false, false, false, false, false, false, false, false, false, false, false, false, false, false, false, false, false, false, false, false, false, false, false, false, false, false, false, false, false, false, false, false, false] (fun x => { tmps := #[.bool false, .slice (some ⟨g9, 0, none⟩) 4 4, .pointer (some ⟨gx1, 0, none⟩), .int .i64 2, u4, .int .i64 2, u6, u7, u8, u9, u10, u11, u12, u13, u14, u15, u16, u17, u18, u19, u20, u21, u22, u23, u24, u25, u26, u27, u28, u29, u30, u31, u32, u33, u34, u35, u36, u37, .bool true, .bool true, .slice (some ⟨g9, 0, none⟩) 4 4, .slice x.2.2.2.2.2.1 x.2.2.2.2.2.2.1 x.2.2.2.2.2.2.2, .slice (some ⟨x.2.1, 0, none⟩) 2 2, u43, u44, u45, u46, u47, u48, u49, u50, u51, u52, u53, u54, u55, u56, u57, u58, u59, u60, u61, u62, u63, u64, u65, u66, u67, u68, u69, u70, u71, u72, u73, u74, u75, u76, u77, u78, u79, u80, u81, u82], defers := [] }) (fun x => x.1) ?_ (fun st34 => ?_)
  · rintro ⟨W, b4, b5, b6, b7, A3, n3, c3⟩ ⟨h0, h4, h3⟩
    (try dsimp only at h0)
    (try dsimp only at h4)
    (try dsimp only at h3)
    dsimp only
    have hS : W.cell? ⟨g9, 0, none⟩ = some (.int .i64 1) ∧ W.cell? ⟨g9, 1, none⟩ = some (.slice B1 k1 d1) ∧ W.cell? ⟨g9, 2, none⟩ = some (.int .i64 2) ∧ W.cell? ⟨g9, 3, none⟩ = some (.slice B2 k2 d2) ∧ W.cell? ⟨g9, 4, none⟩ = some (.int .i64 3) ∧ W.cell? ⟨g9, 5, none⟩ = some (.slice B3 k3 d3) := HC.out W h0
    refine TA.all2 5 6 (by kernel_rfl) ?_ ?_
    · refine ⟨_, (by simp only [List.getElem?_toArray, List.getElem?_cons_succ, List.getElem?_cons_zero]; rfl), by rfl, fun K hK => ?_⟩
      go_simp
      have b := (Below.refl W.heap.size W).alloc (Nat.le_refl _) (.cells #[.int .i64 3] 3)
      have hnew : NI (W.alloc (.cells #[.int .i64 3] 3)) W.heap.size 1 [3] := NI.new W 3 [3] 1 rfl
      have k0 : Below z u0 (W.alloc (.cells #[.int .i64 3] 3)) := h0.trans (b.mono (HQ.out _ h0).2.2.2.2.1)
      refine hK.out _ _ (HC.out _ k0) ?_
      clear hK
      (try simp only [Act.put, List.setIfInBounds_toArray, List.set_cons_zero, List.set_cons_succ])
      exact st345.out ((W.alloc (.cells #[.int .i64 3] 3)), b4, W.heap.size, b6, b7, A3, n3, c3) ⟨k0, h4.below b, hnew, h3.below b⟩
    · refine ⟨_, (by simp only [List.getElem?_toArray, List.getElem?_cons_succ, List.getElem?_cons_zero]; rfl), by rfl, fun K hK => ?_⟩
      go_simp
      have b := (Below.refl W.heap.size W).alloc (Nat.le_refl _) (.cells #[.int .i64 4] 3)
      have hnew : NI (W.alloc (.cells #[.int .i64 4] 3)) W.heap.size 1 [4] := NI.new W 3 [4] 1 rfl
      have k0 : Below z u0 (W.alloc (.cells #[.int .i64 4] 3)) := h0.trans (b.mono (HQ.out _ h0).2.2.2.2.1)
      refine hK.out _ _ (HC.out _ k0) ?_
      clear hK
      (try simp only [Act.put, List.setIfInBounds_toArray, List.set_cons_zero, List.set_cons_succ])
      exact st346.out ((W.alloc (.cells #[.int .i64 4] 3)), b4, b5, W.heap.size, b7, A3, n3, c3) ⟨k0, h4.below b, hnew, h3.below b⟩
  refine TA.share (X := World × Nat × Nat × Nat × Nat × Option Addr × Nat × Nat) (fun x => Below z u0 x.1 ∧ NI x.1 x.2.2.1 1 [3] ∧ NL x.1 x.2.2.2.2.2.1 x.2.2.2.2.2.2.1 [[1, 2], [3], [4]]) 41 #[true, true, true, true, false, true, false, false, false, false, false, false, false, false, false, false, false, false, false, false, false, false, false, false, false, false, false, false, false, false, false, false, false, false, false, false, false, false, false, false, false, false, false, false, false, false] (fun x => { tmps := #[.bool false, .slice (some ⟨g9, 0, none⟩) 4 4, .pointer (some ⟨gx1, 0, none⟩), .int .i64 2, u4, .int .i64 2, u6, u7, u8, u9, u10, u11, u12, u13, u14, u15, u16, u17, u18, u19, u20, u21, u22, u23, u24, u25, u26, u27, u28, u29, u30, u31, u32, u33, u34, u35, u36, u37, .bool true, .bool true, .slice (some ⟨g9, 0, none⟩) 4 4, .slice x.2.2.2.2.2.1 x.2.2.2.2.2.2.1 x.2.2.2.2.2.2.2, u42, .slice (some ⟨x.2.2.1, 0, none⟩) 1 1, u44, u45, u46, u47, u48, u49, u50, u51, u52, u53, u54, u55, u56, u57, u58, u59, u60, u61, u62, u63, u64, u65, u66, u67, u68, u69, u70, u71, u72, u73, u74, u75, u76, u77, u78, u79, u80, u81, u82], defers := [] }) (fun x => x.1) ?_ (fun st35 => ?_)
  · rintro ⟨W, b4, b5, b6, b7, A3, n3, c3⟩ ⟨h0, h5, h3⟩
    (try dsimp only at h0)
    (try dsimp only at h5)
    (try dsimp only at h3)
    dsimp only
    have hS : W.cell? ⟨g9, 0, none⟩ = some (.int .i64 1) ∧ W.cell? ⟨g9, 1, none⟩ = some (.slice B1 k1 d1) ∧ W.cell? ⟨g9, 2, none⟩ = some (.int .i64 2) ∧ W.cell? ⟨g9, 3, none⟩ = some (.slice B2 k2 d2) ∧ W.cell? ⟨g9, 4, none⟩ = some (.int .i64 3) ∧ W.cell? ⟨g9, 5, none⟩ = some (.slice B3 k3 d3) := HC.out W h0
    refine TA.all2 4 6 (by kernel_rfl) ?_ ?_
    · refine ⟨_, (by simp only [List.getElem?_toArray, List.getElem?_cons_succ, List.getElem?_cons_zero]; rfl), by rfl, fun K hK => ?_⟩
      go_simp
      have b := (Below.refl W.heap.size W).alloc (Nat.le_refl _) (.cells #[.int .i64 1, .int .i64 2] 3)
      have hnew : NI (W.alloc (.cells #[.int .i64 1, .int .i64 2] 3)) W.heap.size 2 [1, 2] := NI.new W 3 [1, 2] 2 rfl
      have k0 : Below z u0 (W.alloc (.cells #[.int .i64 1, .int .i64 2] 3)) := h0.trans (b.mono (HQ.out _ h0).2.2.2.2.1)
      refine hK.out _ _ (HC.out _ k0) ?_
      clear hK
      (try simp only [Act.put, List.setIfInBounds_toArray, List.set_cons_zero, List.set_cons_succ])
      exact st345.out ((W.alloc (.cells #[.int .i64 1, .int .i64 2] 3)), W.heap.size, b5, b6, b7, A3, n3, c3) ⟨k0, hnew, h5.below b, h3.below b⟩
    · refine ⟨_, (by simp only [List.getElem?_toArray, List.getElem?_cons_succ, List.getElem?_cons_zero]; rfl), by rfl, fun K hK => ?_⟩
      go_simp
      have b := (Below.refl W.heap.size W).alloc (Nat.le_refl _) (.cells #[.int .i64 4] 3)
      have hnew : NI (W.alloc (.cells #[.int .i64 4] 3)) W.heap.size 1 [4] := NI.new W 3 [4] 1 rfl
      have k0 : Below z u0 (W.alloc (.cells #[.int .i64 4] 3)) := h0.trans (b.mono (HQ.out _ h0).2.2.2.2.1)
      refine hK.out _ _ (HC.out _ k0) ?_
      clear hK
      (try simp only [Act.put, List.setIfInBounds_toArray, List.set_cons_zero, List.set_cons_succ])
      exact st356.out ((W.alloc (.cells #[.int .i64 4] 3)), b4, b5, W.heap.size, b7, A3, n3, c3) ⟨k0, h5.below b, hnew, h3.below b⟩
  refine TA.share (X := World × Nat × Nat × Nat × Nat × Option Addr × Nat × Nat) (fun x => Below z u0 x.1 ∧ NI x.1 x.2.2.2.1 1 [4] ∧ NL x.1 x.2.2.2.2.2.1 x.2.2.2.2.2.2.1 [[1, 2], [3], [4]]) 41 #[true, true, true, true, false, false, true, false, false, false, false, false, false, false, false, false, false, false, false, false, false, false, false, false, false, false, false, false, false, false, false, false, false, false, false, false, false, false, false, false, false, false, false, false, false, false] (fun x => { tmps := #[.bool false, .slice (some ⟨g9, 0, none⟩) 4 4, .pointer (some ⟨gx1, 0, none⟩), .int .i64 2, u4, .int .i64 2, u6, u7, u8, u9, u10, u11, u12, u13, u14, u15, u16, u17, u18, u19, u20, u21, u22, u23, u24, u25, u26, u27, u28, u29, u30, u31, u32, u33, u34, u35, u36, u37, .bool true, .bool true, .slice (some ⟨g9, 0, none⟩) 4 4, .slice x.2.2.2.2.2.1 x.2.2.2.2.2.2.1 x.2.2.2.2.2.2.2, u42, u43, .slice (some ⟨x.2.2.2.1, 0, none⟩) 1 1, u45, u46, u47, u48, u49, u50, u51, u52, u53, u54, u55, u56, u57, u58, u59, u60, u61, u62, u63, u64, u65, u66, u67, u68, u69, u70, u71, u72, u73, u74, u75, u76, u77, u78, u79, u80, u81, u82], defers := [] }) (fun x => x.1) ?_ (fun st36 => ?_)
  · rintro ⟨W, b4, b5, b6, b7, A3, n3, c3⟩ ⟨h0, h6, h3⟩
    (try dsimp only at h0)
    (try dsimp only at h6)
    (try dsimp only at h3)
    dsimp only
    have hS : W.cell? ⟨g9, 0, none⟩ = some (.int .i64 1) ∧ W.cell? ⟨g9, 1, none⟩ = some (.slice B1 k1 d1) ∧ W.cell? ⟨g9, 2, none⟩ = some (.int .i64 2) ∧ W.cell? ⟨g9, 3, none⟩ = some (.slice B2 k2 d2) ∧ W.cell? ⟨g9, 4, none⟩ = some (.int .i64 3) ∧ W.cell? ⟨g9, 5, none⟩ = some (.slice B3 k3 d3) := HC.out W h0
    refine TA.all2 4 5 (by kernel_rfl) ?_ ?_
    · refine ⟨_, (by simp only [List.getElem?_toArray, List.getElem?_cons_succ, List.getElem?_cons_zero]; rfl), by rfl, fun K hK => ?_⟩
      go_simp
      have b := (Below.refl W.heap.size W).alloc (Nat.le_refl _) (.cells #[.int .i64 1, .int .i64 2] 3)
      have hnew : NI (W.alloc (.cells #[.int .i64 1, .int .i64 2] 3)) W.heap.size 2 [1, 2] := NI.new W 3 [1, 2] 2 rfl
      have k0 : Below z u0 (W.alloc (.cells #[.int .i64 1, .int .i64 2] 3)) := h0.trans (b.mono (HQ.out _ h0).2.2.2.2.1)
      refine hK.out _ _ (HC.out _ k0) ?_
      clear hK
      (try simp only [Act.put, List.setIfInBounds_toArray, List.set_cons_zero, List.set_cons_succ])
      exact st346.out ((W.alloc (.cells #[.int .i64 1, .int .i64 2] 3)), W.heap.size, b5, b6, b7, A3, n3, c3) ⟨k0, hnew, h6.below b, h3.below b⟩
    · refine ⟨_, (by simp only [List.getElem?_toArray, List.getElem?_cons_succ, List.getElem?_cons_zero]; rfl), by rfl, fun K hK => ?_⟩
      go_simp
      have b := (Below.refl W.heap.size W).alloc (Nat.le_refl _) (.cells #[.int .i64 3] 3)
      have hnew : NI (W.alloc (.cells #[.int .i64 3] 3)) W.heap.size 1 [3] := NI.new W 3 [3] 1 rfl
      have k0 : Below z u0 (W.alloc (.cells #[.int .i64 3] 3)) := h0.trans (b.mono (HQ.out _ h0).2.2.2.2.1)
      refine hK.out _ _ (HC.out _ k0) ?_
      clear hK
      (try simp only [Act.put, List.setIfInBounds_toArray, List.set_cons_zero, List.set_cons_succ])
      exact st356.out ((W.alloc (.cells #[.int .i64 3] 3)), b4, W.heap.size, b6, b7, A3, n3, c3) ⟨k0, hnew, h6.below b, h3.below b⟩
  refine TA.share (X := World × Nat × Nat × Nat × Nat × Option Addr × Nat × Nat) (fun x => Below z u0 x.1 ∧ NI x.1 x.2.1 2 [1, 2] ∧ NI x.1 x.2.2.1 1 [3]) 41 #[true, true, true, false, true, true, false, false, false, false, false, false, false, false, false, false, false, false, false, false, false, false, false, false, false, false, false, false, false, false, false, false, false, false, false, false, false, false, false, false, false, false, false, false, false, false] (fun x => { tmps := #[.bool false, .slice (some ⟨g9, 0, none⟩) 4 4, .pointer (some ⟨gx1, 0, none⟩), .int .i64 2, u4, .int .i64 2, u6, u7, u8, u9, u10, u11, u12, u13, u14, u15, u16, u17, u18, u19, u20, u21, u22, u23, u24, u25, u26, u27, u28, u29, u30, u31, u32, u33, u34, u35, u36, u37, .bool true, .bool true, .slice (some ⟨g9, 0, none⟩) 4 4, u41, .slice (some ⟨x.2.1, 0, none⟩) 2 2, .slice (some ⟨x.2.2.1, 0, none⟩) 1 1, u44, u45, u46, u47, u48, u49, u50, u51, u52, u53, u54, u55, u56, u57, u58, u59, u60, u61, u62, u63, u64, u65, u66, u67, u68, u69, u70, u71, u72, u73, u74, u75, u76, u77, u78, u79, u80, u81, u82], defers := [] }) (fun x => x.1) ?_ (fun st45 => ?_)
  · rintro ⟨W, b4, b5, b6, b7, A3, n3, c3⟩ ⟨h0, h4, h5⟩
    (try dsimp only at h0)
    (try dsimp only at h4)
    (try dsimp only at h5)
    dsimp only
    have hS : W.cell? ⟨g9, 0, none⟩ = some (.int .i64 1) ∧ W.cell? ⟨g9, 1, none⟩ = some (.slice B1 k1 d1) ∧ W.cell? ⟨g9, 2, none⟩ = some (.int .i64 2) ∧ W.cell? ⟨g9, 3, none⟩ = some (.slice B2 k2 d2) ∧ W.cell? ⟨g9, 4, none⟩ = some (.int .i64 3) ∧ W.cell? ⟨g9, 5, none⟩ = some (.slice B3 k3 d3) := HC.out W h0
    refine TA.all2 3 6 (by kernel_rfl) ?_ ?_
    · refine ⟨_, (by simp only [List.getElem?_toArray, List.getElem?_cons_succ, List.getElem?_cons_zero]; rfl), by rfl, fun K hK => ?_⟩
      go_simp
      refine (parts_v (some ⟨g9, 0, none⟩) 4 4 z ms fF W (HQ.out _ h0).2.2.2.1 (HQ.out _ h0).2.2.2.2.1 (by omega)).mono ?_
      rintro e W2 ⟨A', n', c', ls, rfl, ⟨base, _, hol⟩, hds, hn', hle, b⟩
      have hnew : NL W2 A' n' [[1, 2], [3], [4]] := ⟨ls, hol.reads fun l hl => (by have := hle l hl; omega), (by rw [hds, HMP.out]; exact ex9), hn'⟩
      have k0 : Below z u0 W2 := h0.trans (b.mono (HQ.out _ h0).2.2.2.2.1)
      refine hK.out _ _ (HC.out _ k0) ?_
      clear hK
      (try simp only [Act.put, List.setIfInBounds_toArray, List.set_cons_zero, List.set_cons_succ])
      exact st345.out (W2, b4, b5, b6, b7, A', n', c') ⟨k0, h4.below b, h5.below b, hnew⟩
    · refine ⟨_, (by simp only [List.getElem?_toArray, List.getElem?_cons_succ, List.getElem?_cons_zero]; rfl), by rfl, fun K hK => ?_⟩
      go_simp
      have b := (Below.refl W.heap.size W).alloc (Nat.le_refl _) (.cells #[.int .i64 4] 3)
      have hnew : NI (W.alloc (.cells #[.int .i64 4] 3)) W.heap.size 1 [4] := NI.new W 3 [4] 1 rfl
      have k0 : Below z u0 (W.alloc (.cells #[.int .i64 4] 3)) := h0.trans (b.mono (HQ.out _ h0).2.2.2.2.1)
      refine hK.out _ _ (HC.out _ k0) ?_
      clear hK
      (try simp only [Act.put, List.setIfInBounds_toArray, List.set_cons_zero, List.set_cons_succ])
      exact st456.out ((W.alloc (.cells #[.int .i64 4] 3)), b4, b5, W.heap.size, b7, A3, n3, c3) ⟨k0, h4.below b, h5.below b, hnew⟩
  refine TA.share (X := World × Nat × Nat × Nat × Nat × Option Addr × Nat × Nat) (fun x => Below z u0 x.1 ∧ NI x.1 x.2.1 2 [1, 2] ∧ NI x.1 x.2.2.2.1 1 [4]) 41 #[true, true, true, false, true, false, true, false, false, false, false, false, false, false, false, false, false, false, false, false, false, false, false, false, false, false, false, false, false, false, false, false, false, false, false, false, false, false, false, false, false, false, false, false, false, false] (fun x => { tmps := #[.bool false, .slice (some ⟨g9, 0, none⟩) 4 4, .pointer (some ⟨gx1, 0, none⟩), .int .i64 2, u4, .int .i64 2, u6, u7, u8, u9, u10, u11, u12, u13, u14, u15, u16, u17, u18, u19, u20, u21, u22, u23, u24, u25, u26, u27, u28, u29, u30, u31, u32, u33, u34, u35, u36, u37, .bool true, .bool true, .slice (some ⟨g9, 0, none⟩) 4 4, u41, .slice (some ⟨x.2.1, 0, none⟩) 2 2, u43, .slice (some ⟨x.2.2.2.1, 0, none⟩) 1 1, u45, u46, u47, u48, u49, u50, u51, u52, u53, u54, u55, u56, u57, u58, u59, u60, u61, u62, u63, u64, u65, u66, u67, u68, u69, u70, u71, u72, u73, u74, u75, u76, u77, u78, u79, u80, u81, u82], defers := [] }) (fun x => x.1) ?_ (fun st46 => ?_)
  · rintro ⟨W, b4, b5, b6, b7, A3, n3, c3⟩ ⟨h0, h4, h6⟩
    (try dsimp only at h0)
    (try dsimp only at h4)
    (try dsimp only at h6)
    dsimp only
    have hS : W.cell? ⟨g9, 0, none⟩ = some (.int .i64 1) ∧ W.cell? ⟨g9, 1, none⟩ = some (.slice B1 k1 d1) ∧ W.cell? ⟨g9, 2, none⟩ = some (.int .i64 2) ∧ W.cell? ⟨g9, 3, none⟩ = some (.slice B2 k2 d2) ∧ W.cell? ⟨g9, 4, none⟩ = some (.int .i64 3) ∧ W.cell? ⟨g9, 5, none⟩ = some (.slice B3 k3 d3) := HC.out W h0
    refine TA.all2 3 5 (by kernel_rfl) ?_ ?_
    · refine ⟨_, (by simp only [List.getElem?_toArray, List.getElem?_cons_succ, List.getElem?_cons_zero]; rfl), by rfl, fun K hK => ?_⟩
      go_simp
      refine (parts_v (some ⟨g9, 0, none⟩) 4 4 z ms fF W (HQ.out _ h0).2.2.2.1 (HQ.out _ h0).2.2.2.2.1 (by omega)).mono ?_
      rintro e W2 ⟨A', n', c', ls, rfl, ⟨base, _, hol⟩, hds, hn', hle, b⟩
      have hnew : NL W2 A' n' [[1, 2], [3], [4]] := ⟨ls, hol.reads fun l hl => (by have := hle l hl; omega), (by rw [hds, HMP.out]; exact ex9), hn'⟩
      have k0 : Below z u0 W2 := h0.trans (b.mono (HQ.out _ h0).2.2.2.2.1)
      refine hK.out _ _ (HC.out _ k0) ?_
      clear hK
      (try simp only [Act.put, List.setIfInBounds_toArray, List.set_cons_zero, List.set_cons_succ])
      exact st346.out (W2, b4, b5, b6, b7, A', n', c') ⟨k0, h4.below b, h6.below b, hnew⟩
    · refine ⟨_, (by simp only [List.getElem?_toArray, List.getElem?_cons_succ, List.getElem?_cons_zero]; rfl), by rfl, fun K hK => ?_⟩
      go_simp
      have b := (Below.refl W.heap.size W).alloc (Nat.le_refl _) (.cells #[.int .i64 3] 3)
      have hnew : NI (W.alloc (.cells #[.int .i64 3] 3)) W.heap.size 1 [3] := NI.new W 3 [3] 1 rfl
      have k0 : Below z u0 (W.alloc (.cells #[.int .i64 3] 3)) := h0.trans (b.mono (HQ.out _ h0).2.2.2.2.1)
      refine hK.out _ _ (HC.out _ k0) ?_
      clear hK
      (try simp only [Act.put, List.setIfInBounds_toArray, List.set_cons_zero, List.set_cons_succ])
      exact st456.out ((W.alloc (.cells #[.int .i64 3] 3)), b4, W.heap.size, b6, b7, A3, n3, c3) ⟨k0, h4.below b, hnew, h6.below b⟩
  refine TA.share (X := World × Nat × Nat × Nat × Nat × Option Addr × Nat × Nat) (fun x => Below z u0 x.1 ∧ NI x.1 x.2.2.1 1 [3] ∧ NI x.1 x.2.2.2.1 1 [4]) 41 #[true, true, true, false, false, true, true, false, false, false, false, false, false, false, false, false, false, false, false, false, false, false, false, false, false, false, false, false, false, false, false, false, false, false, false, false, false, false, false, false, false, false, false, false, false, false] (fun x => { tmps := #[.bool false, .slice (some ⟨g9, 0, none⟩) 4 4, .pointer (some ⟨gx1, 0, none⟩), .int .i64 2, u4, .int .i64 2, u6, u7, u8, u9, u10, u11, u12, u13, u14, u15, u16, u17, u18, u19, u20, u21, u22, u23, u24, u25, u26, u27, u28, u29, u30, u31, u32, u33, u34, u35, u36, u37, .bool true, .bool true, .slice (some ⟨g9, 0, none⟩) 4 4, u41, u42, .slice (some ⟨x.2.2.1, 0, none⟩) 1 1, .slice (some ⟨x.2.2.2.1, 0, none⟩) 1 1, u45, u46, u47, u48, u49, u50, u51, u52, u53, u54, u55, u56, u57, u58, u59, u60, u61, u62, u63, u64, u65, u66, u67, u68, u69, u70, u71, u72, u73, u74, u75, u76, u77, u78, u79, u80, u81, u82], defers := [] }) (fun x => x.1) ?_ (fun st56 => ?_)
  · rintro ⟨W, b4, b5, b6, b7, A3, n3, c3⟩ ⟨h0, h5, h6⟩
    (try dsimp only at h0)
    (try dsimp only at h5)
    (try dsimp only at h6)
    dsimp only
    have hS : W.cell? ⟨g9, 0, none⟩ = some (.int .i64 1) ∧ W.cell? ⟨g9, 1, none⟩ = some (.slice B1 k1 d1) ∧ W.cell? ⟨g9, 2, none⟩ = some (.int .i64 2) ∧ W.cell? ⟨g9, 3, none⟩ = some (.slice B2 k2 d2) ∧ W.cell? ⟨g9, 4, none⟩ = some (.int .i64 3) ∧ W.cell? ⟨g9, 5, none⟩ = some (.slice B3 k3 d3) := HC.out W h0
    refine TA.all2 3 4 (by kernel_rfl) ?_ ?_
    · refine ⟨_, (by simp only [List.getElem?_toArray, List.getElem?_cons_succ, List.getElem?_cons_zero]; rfl), by rfl, fun K hK => ?_⟩
      go_simp
      refine (parts_v (some ⟨g9, 0, none⟩) 4 4 z ms fF W (HQ.out _ h0).2.2.2.1 (HQ.out _ h0).2.2.2.2.1 (by omega)).mono ?_
      rintro e W2 ⟨A', n', c', ls, rfl, ⟨base, _, hol⟩, hds, hn', hle, b⟩
      have hnew : NL W2 A' n' [[1, 2], [3], [4]] := ⟨ls, hol.reads fun l hl => (by have := hle l hl; omega), (by rw [hds, HMP.out]; exact ex9), hn'⟩
      have k0 : Below z u0 W2 := h0.trans (b.mono (HQ.out _ h0).2.2.2.2.1)
      refine hK.out _ _ (HC.out _ k0) ?_
      clear hK
      (try simp only [Act.put, List.setIfInBounds_toArray, List.set_cons_zero, List.set_cons_succ])
      exact st356.out (W2, b4, b5, b6, b7, A', n', c') ⟨k0, h5.below b, h6.below b, hnew⟩
    · refine ⟨_, (by simp only [List.getElem?_toArray, List.getElem?_cons_succ, List.getElem?_cons_zero]; rfl), by rfl, fun K hK => ?_⟩
      go_simp
      have b := (Below.refl W.heap.size W).alloc (Nat.le_refl _) (.cells #[.int .i64 1, .int .i64 2] 3)
      have hnew : NI (W.alloc (.cells #[.int .i64 1, .int .i64 2] 3)) W.heap.size 2 [1, 2] := NI.new W 3 [1, 2] 2 rfl
      have k0 : Below z u0 (W.alloc (.cells #[.int .i64 1, .int .i64 2] 3)) := h0.trans (b.mono (HQ.out _ h0).2.2.2.2.1)
      refine hK.out _ _ (HC.out _ k0) ?_
      clear hK
      (try simp only [Act.put, List.setIfInBounds_toArray, List.set_cons_zero, List.set_cons_succ])
      exact st456.out ((W.alloc (.cells #[.int .i64 1, .int .i64 2] 3)), W.heap.size, b5, b6, b7, A3, n3, c3) ⟨k0, hnew, h5.below b, h6.below b⟩
  refine TA.share (X := World × Nat × Nat × Nat × Nat × Option Addr × Nat × Nat) (fun x => Below z u0 x.1 ∧ NL x.1 x.2.2.2.2.2.1 x.2.2.2.2.2.2.1 [[1, 2], [3], [4]]) 42 #[true, true, true, true, false, false, false, false, false, false, false, false, false, false, false, false, false, false, false, false, false, false, false, false, false, false, false, false, false, false, false, false, false, false, false, false, false, false, false, false, false, false, false, false, false, false] (fun x => { tmps := #[.bool false, .slice (some ⟨g9, 0, none⟩) 4 4, .pointer (some ⟨gx1, 0, none⟩), .int .i64 2, u4, .int .i64 2, u6, u7, u8, u9, u10, u11, u12, u13, u14, u15, u16, u17, u18, u19, u20, u21, u22, u23, u24, u25, u26, u27, u28, u29, u30, u31, u32, u33, u34, u35, u36, u37, .bool true, .bool true, .slice (some ⟨g9, 0, none⟩) 4 4, .slice x.2.2.2.2.2.1 x.2.2.2.2.2.2.1 x.2.2.2.2.2.2.2, u42, u43, u44, u45, u46, u47, u48, u49, u50, u51, u52, u53, u54, u55, u56, u57, u58, u59, u60, u61, u62, u63, u64, u65, u66, u67, u68, u69, u70, u71, u72, u73, u74, u75, u76, u77, u78, u79, u80, u81, u82], defers := [] }) (fun x => x.1) ?_ (fun st3 => ?_)
  · rintro ⟨W, b4, b5, b6, b7, A3, n3, c3⟩ ⟨h0, h3⟩
    (try dsimp only at h0)
    (try dsimp only at h3)
    dsimp only
    have hS : W.cell? ⟨g9, 0, none⟩ = some (.int .i64 1) ∧ W.cell? ⟨g9, 1, none⟩ = some (.slice B1 k1 d1) ∧ W.cell? ⟨g9, 2, none⟩ = some (.int .i64 2) ∧ W.cell? ⟨g9, 3, none⟩ = some (.slice B2 k2 d2) ∧ W.cell? ⟨g9, 4, none⟩ = some (.int .i64 3) ∧ W.cell? ⟨g9, 5, none⟩ = some (.slice B3 k3 d3) := HC.out W h0
    refine TA.all3 4 5 6 (by kernel_rfl) ?_ ?_ ?_
    · refine ⟨_, (by simp only [List.getElem?_toArray, List.getElem?_cons_succ, List.getElem?_cons_zero]; rfl), by rfl, fun K hK => ?_⟩
      go_simp
      have b := (Below.refl W.heap.size W).alloc (Nat.le_refl _) (.cells #[.int .i64 1, .int .i64 2] 3)
      have hnew : NI (W.alloc (.cells #[.int .i64 1, .int .i64 2] 3)) W.heap.size 2 [1, 2] := NI.new W 3 [1, 2] 2 rfl
      have k0 : Below z u0 (W.alloc (.cells #[.int .i64 1, .int .i64 2] 3)) := h0.trans (b.mono (HQ.out _ h0).2.2.2.2.1)
      refine hK.out _ _ (HC.out _ k0) ?_
      clear hK
      (try simp only [Act.put, List.setIfInBounds_toArray, List.set_cons_zero, List.set_cons_succ])
      exact st34.out ((W.alloc (.cells #[.int .i64 1, .int .i64 2] 3)), W.heap.size, b5, b6, b7, A3, n3, c3) ⟨k0, hnew, h3.below b⟩
    · refine ⟨_, (by simp only [List.getElem?_toArray, List.getElem?_cons_succ, List.getElem?_cons_zero]; rfl), by rfl, fun K hK => ?_⟩
      go_simp
      have b := (Below.refl W.heap.size W).alloc (Nat.le_refl _) (.cells #[.int .i64 3] 3)
      have hnew : NI (W.alloc (.cells #[.int .i64 3] 3)) W.heap.size 1 [3] := NI.new W 3 [3] 1 rfl
      have k0 : Below z u0 (W.alloc (.cells #[.int .i64 3] 3)) := h0.trans (b.mono (HQ.out _ h0).2.2.2.2.1)
      refine hK.out _ _ (HC.out _ k0) ?_
      clear hK
      (try simp only [Act.put, List.setIfInBounds_toArray, List.set_cons_zero, List.set_cons_succ])
      exact st35.out ((W.alloc (.cells #[.int .i64 3] 3)), b4, W.heap.size, b6, b7, A3, n3, c3) ⟨k0, hnew, h3.below b⟩
    · refine ⟨_, (by simp only [List.getElem?_toArray, List.getElem?_cons_succ, List.getElem?_cons_zero]; rfl), by rfl, fun K hK => ?_⟩
      go_simp
      have b := (Below.refl W.heap.size W).alloc (Nat.le_refl _) (.cells #[.int .i64 4] 3)
      have hnew : NI (W.alloc (.cells #[.int .i64 4] 3)) W.heap.size 1 [4] := NI.new W 3 [4] 1 rfl
      have k0 : Below z u0 (W.alloc (.cells #[.int .i64 4] 3)) := h0.trans (b.mono (HQ.out _ h0).2.2.2.2.1)
      refine hK.out _ _ (HC.out _ k0) ?_
      clear hK
      (try simp only [Act.put, List.setIfInBounds_toArray, List.set_cons_zero, List.set_cons_succ])
      exact st36.out ((W.alloc (.cells #[.int .i64 4] 3)), b4, b5, W.heap.size, b7, A3, n3, c3) ⟨k0, hnew, h3.below b⟩
  refine TA.share (X := World × Nat × Nat × Nat × Nat × Option Addr × Nat × Nat) (fun x => Below z u0 x.1 ∧ NI x.1 x.2.1 2 [1, 2]) 42 #[true, true, true, false, true, false, false, false, false, false, false, false, false, false, false, false, false, false, false, false, false, false, false, false, false, false, false, false, false, false, false, false, false, false, false, false, false, false, false, false, false, false, false, false, false, false] (fun x => { tmps := #[.bool false, .slice (some ⟨g9, 0, none⟩) 4 4, .pointer (some ⟨gx1, 0, none⟩), .int .i64 2, u4, .int .i64 2, u6, u7, u8, u9, u10, u11, u12, u13, u14, u15, u16, u17, u18, u19, u20, u21, u22, u23, u24, u25, u26, u27, u28, u29, u30, u31, u32, u33, u34, u35, u36, u37, .bool true, .bool true, .slice (some ⟨g9, 0, none⟩) 4 4, u41, .slice (some ⟨x.2.1, 0, none⟩) 2 2, u43, u44, u45, u46, u47, u48, u49, u50, u51, u52, u53, u54, u55, u56, u57, u58, u59, u60, u61, u62, u63, u64, u65, u66, u67, u68, u69, u70, u71, u72, u73, u74, u75, u76, u77, u78, u79, u80, u81, u82], defers := [] }) (fun x => x.1) ?_ (fun st4 => ?_)
  · rintro ⟨W, b4, b5, b6, b7, A3, n3, c3⟩ ⟨h0, h4⟩
    (try dsimp only at h0)
    (try dsimp only at h4)
    dsimp only
    have hS : W.cell? ⟨g9, 0, none⟩ = some (.int .i64 1) ∧ W.cell? ⟨g9, 1, none⟩ = some (.slice B1 k1 d1) ∧ W.cell? ⟨g9, 2, none⟩ = some (.int .i64 2) ∧ W.cell? ⟨g9, 3, none⟩ = some (.slice B2 k2 d2) ∧ W.cell? ⟨g9, 4, none⟩ = some (.int .i64 3) ∧ W.cell? ⟨g9, 5, none⟩ = some (.slice B3 k3 d3) := HC.out W h0
    refine TA.all3 3 5 6 (by kernel_rfl) ?_ ?_ ?_
    · refine ⟨_, (by simp only [List.getElem?_toArray, List.getElem?_cons_succ, List.getElem?_cons_zero]; rfl), by rfl, fun K hK => ?_⟩
      go_simp
      refine (parts_v (some ⟨g9, 0, none⟩) 4 4 z ms fF W (HQ.out _ h0).2.2.2.1 (HQ.out _ h0).2.2.2.2.1 (by omega)).mono ?_
      rintro e W2 ⟨A', n', c', ls, rfl, ⟨base, _, hol⟩, hds, hn', hle, b⟩
      have hnew : NL W2 A' n' [[1, 2], [3], [4]] := ⟨ls, hol.reads fun l hl => (by have := hle l hl; omega), (by rw [hds, HMP.out]; exact ex9), hn'⟩
      have k0 : Below z u0 W2 := h0.trans (b.mono (HQ.out _ h0).2.2.2.2.1)
      refine hK.out _ _ (HC.out _ k0) ?_
      clear hK
      (try simp only [Act.put, List.setIfInBounds_toArray, List.set_cons_zero, List.set_cons_succ])
      exact st34.out (W2, b4, b5, b6, b7, A', n', c') ⟨k0, h4.below b, hnew⟩
    · refine ⟨_, (by simp only [List.getElem?_toArray, List.getElem?_cons_succ, List.getElem?_cons_zero]; rfl), by rfl, fun K hK => ?_⟩
      go_simp
      have b := (Below.refl W.heap.size W).alloc (Nat.le_refl _) (.cells #[.int .i64 3] 3)
      have hnew : NI (W.alloc (.cells #[.int .i64 3] 3)) W.heap.size 1 [3] := NI.new W 3 [3] 1 rfl
      have k0 : Below z u0 (W.alloc (.cells #[.int .i64 3] 3)) := h0.trans (b.mono (HQ.out _ h0).2.2.2.2.1)
      refine hK.out _ _ (HC.out _ k0) ?_
      clear hK
      (try simp only [Act.put, List.setIfInBounds_toArray, List.set_cons_zero, List.set_cons_succ])
      exact st45.out ((W.alloc (.cells #[.int .i64 3] 3)), b4, W.heap.size, b6, b7, A3, n3, c3) ⟨k0, h4.below b, hnew⟩
    · refine ⟨_, (by simp only [List.getElem?_toArray, List.getElem?_cons_succ, List.getElem?_cons_zero]; rfl), by rfl, fun K hK => ?_⟩
      go_simp
      have b := (Below.refl W.heap.size W).alloc (Nat.le_refl _) (.cells #[.int .i64 4] 3)
      have hnew : NI (W.alloc (.cells #[.int .i64 4] 3)) W.heap.size 1 [4] := NI.new W 3 [4] 1 rfl
      have k0 : Below z u0 (W.alloc (.cells #[.int .i64 4] 3)) := h0.trans (b.mono (HQ.out _ h0).2.2.2.2.1)
      refine hK.out _ _ (HC.out _ k0) ?_
      clear hK
      (try simp only [Act.put, List.setIfInBounds_toArray, List.set_cons_zero, List.set_cons_succ])
      exact st46.out ((W.alloc (.cells #[.int .i64 4] 3)), b4, b5, W.heap.size, b7, A3, n3, c3) ⟨k0, h4.below b, hnew⟩
  refine TA.share (X := World × Nat × Nat × Nat × Nat × Option Addr × Nat × Nat) (fun x => Below z u0 x.1 ∧ NI x.1 x.2.2.1 1 [3]) 42 #[true, true, true, false, false, true, false, false, false, false, false, false, false, false, false, false, false, false, false, false, false, false, false, false, false, false, false, false, false, false, false, false, false, false, false, false, false, false, false, false, false, false, false, false, false, false] (fun x => { tmps := #[.bool false, .slice (some ⟨g9, 0, none⟩) 4 4, .pointer (some ⟨gx1, 0, none⟩), .int .i64 2, u4, .int .i64 2, u6, u7, u8, u9, u10, u11, u12, u13, u14, u15, u16, u17, u18, u19, u20, u21, u22, u23, u24, u25, u26, u27, u28, u29, u30, u31, u32, u33, u34, u35, u36, u37, .bool true, .bool true, .slice (some ⟨g9, 0, none⟩) 4 4, u41, u42, .slice (some ⟨x.2.2.1, 0, none⟩) 1 1, u44, u45, u46, u47, u48, u49, u50, u51, u52, u53, u54, u55, u56, u57, u58, u59, u60, u61, u62, u63, u64, u65, u66, u67, u68, u69, u70, u71, u72, u73, u74, u75, u76, u77, u78, u79, u80, u81, u82], defers := [] }) (fun x => x.1) ?_ (fun st5 => ?_)
  · rintro ⟨W, b4, b5, b6, b7, A3, n3, c3⟩ ⟨h0, h5⟩
    (try dsimp only at h0)
    (try dsimp only at h5)
    dsimp only
    have hS : W.cell? ⟨g9, 0, none⟩ = some (.int .i64 1) ∧ W.cell? ⟨g9, 1, none⟩ = some (.slice B1 k1 d1) ∧ W.cell? ⟨g9, 2, none⟩ = some (.int .i64 2) ∧ W.cell? ⟨g9, 3, none⟩ = some (.slice B2 k2 d2) ∧ W.cell? ⟨g9, 4, none⟩ = some (.int .i64 3) ∧ W.cell? ⟨g9, 5, none⟩ = some (.slice B3 k3 d3) := HC.out W h0
    refine TA.all3 3 4 6 (by kernel_rfl) ?_ ?_ ?_
    · refine ⟨_, (by simp only [List.getElem?_toArray, List.getElem?_cons_succ, List.getElem?_cons_zero]; rfl), by rfl, fun K hK => ?_⟩
      go_simp
      refine (parts_v (some ⟨g9, 0, none⟩) 4 4 z ms fF W (HQ.out _ h0).2.2.2.1 (HQ.out _ h0).2.2.2.2.1 (by omega)).mono ?_
      rintro e W2 ⟨A', n', c', ls, rfl, ⟨base, _, hol⟩, hds, hn', hle, b⟩
      have hnew : NL W2 A' n' [[1, 2], [3], [4]] := ⟨ls, hol.reads fun l hl => (by have := hle l hl; omega), (by rw [hds, HMP.out]; exact ex9), hn'⟩
      have k0 : Below z u0 W2 := h0.trans (b.mono (HQ.out _ h0).2.2.2.2.1)
      refine hK.out _ _ (HC.out _ k0) ?_
      clear hK
      (try simp only [Act.put, List.setIfInBounds_toArray, List.set_cons_zero, List.set_cons_succ])
      exact st35.out (W2, b4, b5, b6, b7, A', n', c') ⟨k0, h5.below b, hnew⟩
    · refine ⟨_, (by simp only [List.getElem?_toArray, List.getElem?_cons_succ, List.getElem?_cons_zero]; rfl), by rfl, fun K hK => ?_⟩
      go_simp
      have b := (Below.refl W.heap.size W).alloc (Nat.le_refl _) (.cells #[.int .i64 1, .int .i64 2] 3)
      have hnew : NI (W.alloc (.cells #[.int .i64 1, .int .i64 2] 3)) W.heap.size 2 [1, 2] := NI.new W 3 [1, 2] 2 rfl
      have k0 : Below z u0 (W.alloc (.cells #[.int .i64 1, .int .i64 2] 3)) := h0.trans (b.mono (HQ.out _ h0).2.2.2.2.1)
      refine hK.out _ _ (HC.out _ k0) ?_
      clear hK
      (try simp only [Act.put, List.setIfInBounds_toArray, List.set_cons_zero, List.set_cons_succ])
      exact st45.out ((W.alloc (.cells #[.int .i64 1, .int .i64 2] 3)), W.heap.size, b5, b6, b7, A3, n3, c3) ⟨k0, hnew, h5.below b⟩
    · refine ⟨_, (by simp only [List.getElem?_toArray, List.getElem?_cons_succ, List.getElem?_cons_zero]; rfl), by rfl, fun K hK => ?_⟩
      go_simp
      have b := (Below.refl W.heap.size W).alloc (Nat.le_refl _) (.cells #[.int .i64 4] 3)
      have hnew : NI (W.alloc (.cells #[.int .i64 4] 3)) W.heap.size 1 [4] := NI.new W 3 [4] 1 rfl
      have k0 : Below z u0 (W.alloc (.cells #[.int .i64 4] 3)) := h0.trans (b.mono (HQ.out _ h0).2.2.2.2.1)
      refine hK.out _ _ (HC.out _ k0) ?_
      clear hK
      (try simp only [Act.put, List.setIfInBounds_toArray, List.set_cons_zero, List.set_cons_succ])
      exact st56.out ((W.alloc (.cells #[.int .i64 4] 3)), b4, b5, W.heap.size, b7, A3, n3, c3) ⟨k0, h5.below b, hnew⟩
  refine TA.share (X := World × Nat × Nat × Nat × Nat × Option Addr × Nat × Nat) (fun x => Below z u0 x.1 ∧ NI x.1 x.2.2.2.1 1 [4]) 42 #[true, true, true, false, false, false, true, false, false, false, false, false, false, false, false, false, false, false, false, false, false, false, false, false, false, false, false, false, false, false, false, false, false, false, false, false, false, false, false, false, false, false, false, false, false, false] (fun x => { tmps := #[.bool false, .slice (some ⟨g9, 0, none⟩) 4 4, .pointer (some ⟨gx1, 0, none⟩), .int .i64 2, u4, .int .i64 2, u6, u7, u8, u9, u10, u11, u12, u13, u14, u15, u16, u17, u18, u19, u20, u21, u22, u23, u24, u25, u26, u27, u28, u29, u30, u31, u32, u33, u34, u35, u36, u37, .bool true, .bool true, .slice (some ⟨g9, 0, none⟩) 4 4, u41, u42, u43, .slice (some ⟨x.2.2.2.1, 0, none⟩) 1 1, u45, u46, u47, u48, u49, u50, u51, u52, u53, u54, u55, u56, u57, u58, u59, u60, u61, u62, u63, u64, u65, u66, u67, u68, u69, u70, u71, u72, u73, u74, u75, u76, u77, u78, u79, u80, u81, u82], defers := [] }) (fun x => x.1) ?_ (fun st6 => ?_)
  · rintro ⟨W, b4, b5, b6, b7, A3, n3, c3⟩ ⟨h0, h6⟩
    (try dsimp only at h0)
    (try dsimp only at h6)
    dsimp only
    have hS : W.cell? ⟨g9, 0, none⟩ = some (.int .i64 1) ∧ W.cell? ⟨g9, 1, none⟩ = some (.slice B1 k1 d1) ∧ W.cell? ⟨g9, 2, none⟩ = some (.int .i64 2) ∧ W.cell? ⟨g9, 3, none⟩ = some (.slice B2 k2 d2) ∧ W.cell? ⟨g9, 4, none⟩ = some (.int .i64 3) ∧ W.cell? ⟨g9, 5, none⟩ = some (.slice B3 k3 d3) := HC.out W h0
    refine TA.all3 3 4 5 (by kernel_rfl) ?_ ?_ ?_
    · refine ⟨_, (by simp only [List.getElem?_toArray, List.getElem?_cons_succ, List.getElem?_cons_zero]; rfl), by rfl, fun K hK => ?_⟩
      go_simp
      refine (parts_v (some ⟨g9, 0, none⟩) 4 4 z ms fF W (HQ.out _ h0).2.2.2.1 (HQ.out _ h0).2.2.2.2.1 (by omega)).mono ?_
      rintro e W2 ⟨A', n', c', ls, rfl, ⟨base, _, hol⟩, hds, hn', hle, b⟩
      have hnew : NL W2 A' n' [[1, 2], [3], [4]] := ⟨ls, hol.reads fun l hl => (by have := hle l hl; omega), (by rw [hds, HMP.out]; exact ex9), hn'⟩
      have k0 : Below z u0 W2 := h0.trans (b.mono (HQ.out _ h0).2.2.2.2.1)
      refine hK.out _ _ (HC.out _ k0) ?_
      clear hK
      (try simp only [Act.put, List.setIfInBounds_toArray, List.set_cons_zero, List.set_cons_succ])
      exact st36.out (W2, b4, b5, b6, b7, A', n', c') ⟨k0, h6.below b, hnew⟩
    · refine ⟨_, (by simp only [List.getElem?_toArray, List.getElem?_cons_succ, List.getElem?_cons_zero]; rfl), by rfl, fun K hK => ?_⟩
      go_simp
      have b := (Below.refl W.heap.size W).alloc (Nat.le_refl _) (.cells #[.int .i64 1, .int .i64 2] 3)
      have hnew : NI (W.alloc (.cells #[.int .i64 1, .int .i64 2] 3)) W.heap.size 2 [1, 2] := NI.new W 3 [1, 2] 2 rfl
      have k0 : Below z u0 (W.alloc (.cells #[.int .i64 1, .int .i64 2] 3)) := h0.trans (b.mono (HQ.out _ h0).2.2.2.2.1)
      refine hK.out _ _ (HC.out _ k0) ?_
      clear hK
      (try simp only [Act.put, List.setIfInBounds_toArray, List.set_cons_zero, List.set_cons_succ])
      exact st46.out ((W.alloc (.cells #[.int .i64 1, .int .i64 2] 3)), W.heap.size, b5, b6, b7, A3, n3, c3) ⟨k0, hnew, h6.below b⟩
    · refine ⟨_, (by simp only [List.getElem?_toArray, List.getElem?_cons_succ, List.getElem?_cons_zero]; rfl), by rfl, fun K hK => ?_⟩
      go_simp
      have b := (Below.refl W.heap.size W).alloc (Nat.le_refl _) (.cells #[.int .i64 3] 3)
      have hnew : NI (W.alloc (.cells #[.int .i64 3] 3)) W.heap.size 1 [3] := NI.new W 3 [3] 1 rfl
      have k0 : Below z u0 (W.alloc (.cells #[.int .i64 3] 3)) := h0.trans (b.mono (HQ.out _ h0).2.2.2.2.1)
      refine hK.out _ _ (HC.out _ k0) ?_
      clear hK
      (try simp only [Act.put, List.setIfInBounds_toArray, List.set_cons_zero, List.set_cons_succ])
      exact st56.out ((W.alloc (.cells #[.int .i64 3] 3)), b4, W.heap.size, b6, b7, A3, n3, c3) ⟨k0, hnew, h6.below b⟩
  refine TA.share (X := World × Nat × Nat × Nat × Nat × Option Addr × Nat × Nat) (fun x => Below z u0 x.1) 43 #[true, true, true, false, false, false, false, false, false, false, false, false, false, false, false, false, false, false, false, false, false, false, false, false, false, false, false, false, false, false, false, false, false, false, false, false, false, false, false, false, false, false, false, false, false, false] (fun x => { tmps := #[.bool false, .slice (some ⟨g9, 0, none⟩) 4 4, .pointer (some ⟨gx1, 0, none⟩), .int .i64 2, u4, .int .i64 2, u6, u7, u8, u9, u10, u11, u12, u13, u14, u15, u16, u17, u18, u19, u20, u21, u22, u23, u24, u25, u26, u27, u28, u29, u30, u31, u32, u33, u34, u35, u36, u37, .bool true, .bool true, .slice (some ⟨g9, 0, none⟩) 4 4, u41, u42, u43, u44, u45, u46, u47, u48, u49, u50, u51, u52, u53, u54, u55, u56, u57, u58, u59, u60, u61, u62, u63, u64, u65, u66, u67, u68, u69, u70, u71, u72, u73, u74, u75, u76, u77, u78, u79, u80, u81, u82], defers := [] }) (fun x => x.1) ?_ (fun st => ?_)
  · rintro ⟨W, b4, b5, b6, b7, A3, n3, c3⟩ h0
    (try dsimp only at h0)
    dsimp only
    have hS : W.cell? ⟨g9, 0, none⟩ = some (.int .i64 1) ∧ W.cell? ⟨g9, 1, none⟩ = some (.slice B1 k1 d1) ∧ W.cell? ⟨g9, 2, none⟩ = some (.int .i64 2) ∧ W.cell? ⟨g9, 3, none⟩ = some (.slice B2 k2 d2) ∧ W.cell? ⟨g9, 4, none⟩ = some (.int .i64 3) ∧ W.cell? ⟨g9, 5, none⟩ = some (.slice B3 k3 d3) := HC.out W h0
    refine TA.all4 3 4 5 6 (by kernel_rfl) ?_ ?_ ?_ ?_
    · refine ⟨_, (by simp only [List.getElem?_toArray, List.getElem?_cons_succ, List.getElem?_cons_zero]; rfl), by rfl, fun K hK => ?_⟩
      go_simp
      refine (parts_v (some ⟨g9, 0, none⟩) 4 4 z ms fF W (HQ.out _ h0).2.2.2.1 (HQ.out _ h0).2.2.2.2.1 (by omega)).mono ?_
      rintro e W2 ⟨A', n', c', ls, rfl, ⟨base, _, hol⟩, hds, hn', hle, b⟩
      have hnew : NL W2 A' n' [[1, 2], [3], [4]] := ⟨ls, hol.reads fun l hl => (by have := hle l hl; omega), (by rw [hds, HMP.out]; exact ex9), hn'⟩
      have k0 : Below z u0 W2 := h0.trans (b.mono (HQ.out _ h0).2.2.2.2.1)
      refine hK.out _ _ (HC.out _ k0) ?_
      clear hK
      (try simp only [Act.put, List.setIfInBounds_toArray, List.set_cons_zero, List.set_cons_succ])
      exact st3.out (W2, b4, b5, b6, b7, A', n', c') ⟨k0, hnew⟩
    · refine ⟨_, (by simp only [List.getElem?_toArray, List.getElem?_cons_succ, List.getElem?_cons_zero]; rfl), by rfl, fun K hK => ?_⟩
      go_simp
      have b := (Below.refl W.heap.size W).alloc (Nat.le_refl _) (.cells #[.int .i64 1, .int .i64 2] 3)
      have hnew : NI (W.alloc (.cells #[.int .i64 1, .int .i64 2] 3)) W.heap.size 2 [1, 2] := NI.new W 3 [1, 2] 2 rfl
      have k0 : Below z u0 (W.alloc (.cells #[.int .i64 1, .int .i64 2] 3)) := h0.trans (b.mono (HQ.out _ h0).2.2.2.2.1)
      refine hK.out _ _ (HC.out _ k0) ?_
      clear hK
      (try simp only [Act.put, List.setIfInBounds_toArray, List.set_cons_zero, List.set_cons_succ])
      exact st4.out ((W.alloc (.cells #[.int .i64 1, .int .i64 2] 3)), W.heap.size, b5, b6, b7, A3, n3, c3) ⟨k0, hnew⟩
    · refine ⟨_, (by simp only [List.getElem?_toArray, List.getElem?_cons_succ, List.getElem?_cons_zero]; rfl), by rfl, fun K hK => ?_⟩
      go_simp
      have b := (Below.refl W.heap.size W).alloc (Nat.le_refl _) (.cells #[.int .i64 3] 3)
      have hnew : NI (W.alloc (.cells #[.int .i64 3] 3)) W.heap.size 1 [3] := NI.new W 3 [3] 1 rfl
      have k0 : Below z u0 (W.alloc (.cells #[.int .i64 3] 3)) := h0.trans (b.mono (HQ.out _ h0).2.2.2.2.1)
      refine hK.out _ _ (HC.out _ k0) ?_
      clear hK
      (try simp only [Act.put, List.setIfInBounds_toArray, List.set_cons_zero, List.set_cons_succ])
      exact st5.out ((W.alloc (.cells #[.int .i64 3] 3)), b4, W.heap.size, b6, b7, A3, n3, c3) ⟨k0, hnew⟩
    · refine ⟨_, (by simp only [List.getElem?_toArray, List.getElem?_cons_succ, List.getElem?_cons_zero]; rfl), by rfl, fun K hK => ?_⟩
      go_simp
      have b := (Below.refl W.heap.size W).alloc (Nat.le_refl _) (.cells #[.int .i64 4] 3)
      have hnew : NI (W.alloc (.cells #[.int .i64 4] 3)) W.heap.size 1 [4] := NI.new W 3 [4] 1 rfl
      have k0 : Below z u0 (W.alloc (.cells #[.int .i64 4] 3)) := h0.trans (b.mono (HQ.out _ h0).2.2.2.2.1)
      refine hK.out _ _ (HC.out _ k0) ?_
      clear hK
      (try simp only [Act.put, List.setIfInBounds_toArray, List.set_cons_zero, List.set_cons_succ])
      exact st6.out ((W.alloc (.cells #[.int .i64 4] 3)), b4, b5, W.heap.size, b7, A3, n3, c3) ⟨k0, hnew⟩
  refine TA.all1 0 (by kernel_rfl) ?_
  refine ⟨_, (by simp only [List.getElem?_toArray, List.getElem?_cons_zero]; rfl), by rfl, fun K hK => ?_⟩
  go_simp
  refine (lives_v y0).mono ?_
  rintro e y1 ⟨rfl, b⟩
  have k0 : Below z u0 y1 := D0.trans (b.mono (HQ.out _ D0).2.2.2.2.1)
  refine hK.out _ _ (HC.out _ k0) ?_
  clear hK
  (try simp only [Act.put, List.setIfInBounds_toArray, List.set_cons_zero, List.set_cons_succ])
  have hS1 := HC.out _ k0
  refine TA.val2 (v := .bool true) 1 _ (by simp only [List.getElem?_toArray, List.getElem?_cons_succ, List.getElem?_cons_zero]; rfl) ?_ ?_ ?_ ?_ ?_ hS1 ?_
  · kernel_rfl
  · kernel_rfl
  · rfl
  · intro V hV; rfl
  · exact fun _ _ _ h => h
  (try simp only [Act.put, List.setIfInBounds_toArray, List.set_cons_zero, List.set_cons_succ])
  refine TA.val2 (v := .slice (some ⟨g9, 0, none⟩) 4 4) 2 _ (by simp only [List.getElem?_toArray, List.getElem?_cons_succ, List.getElem?_cons_zero]; rfl) ?_ ?_ ?_ ?_ ?_ hS1 ?_
  · kernel_rfl
  · kernel_rfl
  · rfl
  · intro V hV; rfl
  · exact fun _ _ _ h => h
  (try simp only [Act.put, List.setIfInBounds_toArray, List.set_cons_zero, List.set_cons_succ])
  exact st.out (y1, 0, 0, 0, 0, none, 0, 0) k0
end Go.Proofs.Ytikegnnlmfidfaa
