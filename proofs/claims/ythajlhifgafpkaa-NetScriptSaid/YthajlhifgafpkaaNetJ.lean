/-
  Nets: the chapter's examples, NetFull's start.
-/
import Derived.Test.YthajlhifgafpkaaNetI
import Derived.Lib.SlBytesConst
namespace Go.Proofs.Ythajlhifgafpkaa
open Go.RowKit Go.Shelf
theorem BReads.litsm (w : World) (l : List UInt8) (cs : Array Value) (fr : Nat × Nat) (h : cs = (l.map u8v).toArray) : BReads (w.alloc (.cells cs 5 fr)) (w.heap.size + 1) (some ⟨w.heap.size, 0, none⟩) l.length l := by
  subst h
  refine ⟨by simp, fun _ => ⟨_, rfl, Nat.lt_succ_self _, fun j u hu => ?_⟩⟩
  have hp : ∀ j, (⟨w.heap.size, 0, none⟩ : Addr).add j = ⟨w.heap.size, j, none⟩ := fun j => by unfold Addr.add; split <;> simp_all
  rw [hp, World.cell?_alloc_mark]
  simpa using hu
theorem conv_const (w : World) (C : Array Value) (n c : Nat) : (convert 22 22 (.slice (some ⟨w.heap.size, 0, none⟩) n c)).run Try.prog (w.alloc (.cells C 5)) = .ok (.slice (some ⟨w.heap.size, 0, none⟩) n c) (w.alloc (.cells C 5 (C.size, C.size + 1))) :=
  Lib.run_convert_bytes_const (P := Try.prog) w 22 5 C n c Try.underlying22 Try.underlying5
section
variable {base g mb n c : Nat} {A : Option Addr} {vs : List PkV} {s : NS}
theorem send_is {a b : Int} {ba : Option Addr} {bl bc B : Nat} {l : List UInt8} {w : World} (h : NetIs w base g mb A n c vs s) (ha : I64 a) (hb : I64 b) (hl : s.last < 1000000000)
    (hr : BReads w B ba bl l) (hB : B ≤ w.heap.size) (hbl : bl ≤ 140737488355328) (hn : n ≤ 4096) (k z : Int) (s' : NS) (hk : ((s.send a b l).1.1 : Int) = k) (hz : ((s.send a b l).1.2 : Int) = z) (hs : (s.send a b l).2 = s') :
    Calls Try.prog 12 #[.pointer (some ⟨g, 0, none⟩), .int .i64 a, .int .i64 b, .slice ba bl bc] w fun e w' => ∃ A' n' c' vs', e = .returned (.tuple #[.int .u64 k, .int .i64 z]) ∧ NetIs w' base g mb A' n' c' vs' s' ∧ Below base w w' := by
  subst hk hz hs
  refine (send_v a b ba bl bc B l w h ha hb hn hl hr hB hbl).mono ?_
  rintro e w' ⟨A', n', c', vs', he, h1, _, h2, _⟩
  exact ⟨A', n', c', vs', he, h1, h2⟩
theorem twice_is {num : Nat} {w : World} (h : NetIs w base g mb A n c vs s) (hn : n ≤ 4096) (hl : s.last < 1000000000) (k z x : Int) (s' : NS) (hx : (num : Int) = x) (hk : ((s.twice num).1.1 : Int) = k) (hz : ((s.twice num).1.2 : Int) = z) (hs : (s.twice num).2 = s') :
    Calls Try.prog 14 #[.pointer (some ⟨g, 0, none⟩), .int .u64 x] w fun e w' => ∃ A' n' c' vs', e = .returned (.tuple #[.int .u64 k, .int .i64 z]) ∧ NetIs w' base g mb A' n' c' vs' s' ∧ Below base w w' := by
  subst hx hk hz hs
  refine (twice_v num w h hn hl).mono ?_
  rintro e w' ⟨A', n', c', vs', he, h1, _, h2, _⟩
  exact ⟨A', n', c', vs', he, h1, h2⟩
theorem take_is {num : Nat} {w : World} (h : NetIs w base g mb A n c vs s) (hn : n ≤ 4096) (z x pn pf pt pr : Int) (pb : List UInt8) (s' : NS) (hx : (num : Int) = x) (k1 : ((s.take num).1.1.num : Int) = pn) (k2 : (s.take num).1.1.frm = pf) (k3 : (s.take num).1.1.too = pt) (k4 : ((s.take num).1.1.run : Int) = pr) (k5 : (s.take num).1.1.bytes = pb) (hz : ((s.take num).1.2 : Int) = z) (hs : (s.take num).2 = s') :
    Calls Try.prog 15 #[.pointer (some ⟨g, 0, none⟩), .int .u64 x] w fun e w' => ∃ va vl vc n' vs', e = .returned (.tuple #[.agg #[.int .u64 pn, .int .i64 pf, .int .i64 pt, .int .u64 pr, .slice va vl vc], .int .i64 z]) ∧ BOwn w' base va vl vc pb ∧ vl ≤ 262144 ∧ NetIs w' base g mb A n' c vs' s' ∧ Below base w w' := by
  subst hx k1 k2 k3 k4 k5 hz hs
  refine (take_v num w h hn).mono ?_
  rintro e w' ⟨⟨vp, va, vl, vc⟩, m, vs', he, ⟨e1, e2, e3⟩, h1, h2, _⟩
  cases e1
  exact ⟨va, vl, vc, m, vs', he, e2, e3, h1, h2⟩
theorem up_is {a b : Int} {w : World} (h : NetIs w base g mb A n c vs s) (ha : I64 a) (hb : I64 b) (N : Nat) (hN : s.small N) (hN2 : N < 1000000) (z : Int) (s' : NS) (hz : ((s.up a b).1 : Int) = z) (hs : (s.up a b).2 = s') :
    Calls Try.prog 11 #[.pointer (some ⟨g, 0, none⟩), .int .i64 a, .int .i64 b] w fun e w' => e = .returned (.int .i64 z) ∧ NetIs w' base g mb A n c vs s' ∧ Below base w w' := by
  subst hz hs
  refine (up_v a b w h ha hb N hN hN2).mono ?_
  rintro e w' ⟨he, h1, h2, _⟩
  exact ⟨he, h1, h2⟩
end
/-- The chapter's nets, one after the other. -/
def L1 : NS := (NS.new.up 2 1).2
def L2 : NS := (L1.send 1 2 [120]).2
def L3 : NS := (L2.twice 1).2
theorem small1 : L1.small 1 := NS.small.new.up 2 1
theorem small2 : L2.small 2 := small1.send 1 2 [120]
theorem small3 : L3.small 3 := small2.twice 1
set_option maxRecDepth 100000 in
set_option maxHeartbeats 4000000 in
theorem lives_v (w : World) : Calls Try.prog 9 #[] w fun e w' => e = .returned (.bool true) ∧ Below w.heap.size w w' := by
  go_enter Try.func9, Try.ntmps9
  go_wp2_with fail
  refine (new_v w).mono ?_
  rintro e w1 ⟨g, mb, rfl, h1, b1⟩
  have hz1 := b1.size
  have H1 := Lib.hid h1
  have B1 := Lib.hid b1
  clear h1 b1
  have hcc := conv_const w1
  go_wp2_with fail
  have BA := Lib.hid ((Below.refl w1.heap.size w1).alloc (Nat.le_refl _) (.cells #[.int .u8 120] 5 (1, 2)))
  have B1a := Lib.hid (B1.out.trans (BA.out.mono hz1))
  refine (send_is (H1.out.below BA.out) (by decide) (by decide) (by decide) (BReads.litsm w1 [120] _ _ rfl) (by simp) (by decide) (by omega) 0 9 NS.new rfl rfl rfl).mono ?_
  rintro e w2 ⟨A2, n2, c2, v2, rfl, h2, b2⟩
  have H2 := Lib.hid h2
  have B2 := Lib.hid (B1a.out.trans b2)
  clear h2 b2 hcc BA B1 H1 B1a
  go_wp2_with fail
  refine (up_is H2.out (by decide) (by decide) 0 NS.small.new (by omega) 0 L1 rfl rfl).mono ?_
  rintro e w3 ⟨rfl, h3, b3⟩
  have H3 := Lib.hid h3
  have B3 := Lib.hid (B2.out.trans b3)
  have hz3 := B3.out.size
  have hcc := conv_const w3
  have hn3 : n2 ≤ 4096 := by rw [← h3.len]; decide
  clear h3 b3 H2 B2
  go_wp2_with fail
  have BA := Lib.hid ((Below.refl w3.heap.size w3).alloc (Nat.le_refl _) (.cells #[.int .u8 120] 5 (1, 2)))
  have B3a := Lib.hid (B3.out.trans (BA.out.mono hz3))
  refine (send_is (H3.out.below BA.out) (by decide) (by decide) (by decide) (BReads.litsm w3 [120] _ _ rfl) (by simp) (by decide) hn3 1 0 L2 rfl rfl rfl).mono ?_
  rintro e w4 ⟨A4, n4, c4, v4, rfl, h4, b4⟩
  have H4 := Lib.hid h4
  have B4 := Lib.hid (B3a.out.trans b4)
  have hn4 : n4 ≤ 4096 := by rw [← h4.len]; decide
  clear h4 b4 hcc BA B3 H3 B3a
  go_wp2_with fail
  refine (twice_is (num := 1) H4.out hn4 (by decide) 2 0 1 L3 rfl rfl rfl rfl).mono ?_
  rintro e w5 ⟨A5, n5, c5, v5, rfl, h5, b5⟩
  have H5 := Lib.hid h5
  have B5 := Lib.hid (B4.out.trans b5)
  have hn5 : n5 ≤ 4096 := by rw [← h5.len]; decide
  clear h5 b5 H4 B4
  go_wp2_with fail
  refine (take_is (num := 1) H5.out hn5 0 1 1 1 2 1 [120] (L3.take 1).2 rfl rfl rfl rfl rfl rfl rfl rfl).mono ?_
  rintro e w6 ⟨va, vl, vc, n6, v6, rfl, ho6, hl6, h6, b6⟩
  have B6 := Lib.hid (B5.out.trans b6)
  clear h6 b6 H5 B5
  have ho6 := Lib.hid ho6
  have h0 := heap_alloc_new w6 (.cells #[.int .u64 1, .int .i64 1, .int .i64 2, .int .u64 1, .slice va vl vc] 34)
  have d3 : (w6.alloc (.cells #[.int .u64 1, .int .i64 1, .int .i64 2, .int .u64 1, .slice va vl vc] 34)).cell? ⟨w6.heap.size, 3, none⟩ = some (.int .u64 1) := by rw [cell_of_row _ _ 3 _ _ _ h0]; rfl
  have d4 : (w6.alloc (.cells #[.int .u64 1, .int .i64 1, .int .i64 2, .int .u64 1, .slice va vl vc] 34)).cell? ⟨w6.heap.size, 4, none⟩ = some (.slice va vl vc) := by rw [cell_of_row _ _ 4 _ _ _ h0]; rfl
  have hl1 := ho6.out.len
  have hst : (convert 22 9 (.slice va vl vc)).run Try.prog (w6.alloc (.cells #[.int .u64 1, .int .i64 1, .int .i64 2, .int .u64 1, .slice va vl vc] 34)) = .ok (.string ⟨#[120]⟩) (w6.alloc (.cells #[.int .u64 1, .int .i64 1, .int .i64 2, .int .u64 1, .slice va vl vc] 34)) := run_str (c := vc) (ho6.out.alloc _).reads
  clear h0
  go_wp2_with fail
  trace_state
  go_ret
  exact ⟨rfl, B6.out.alloc B6.out.size _⟩
end Go.Proofs.Ythajlhifgafpkaa
