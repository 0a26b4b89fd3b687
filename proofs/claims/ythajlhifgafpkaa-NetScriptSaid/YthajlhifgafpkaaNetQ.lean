/-
  Nets: NetNames.
-/
import Derived.Test.YthajlhifgafpkaaNetO
import Derived.Test.YthajlhifgafpkaaNetP
namespace Go.Proofs.Ythajlhifgafpkaa
open Go.RowKit Go.Shelf
section
variable {base g mb n c : Nat} {A : Option Addr} {vs : List PkV} {s : NS}
theorem down_is {a b : Int} {w : World} (h : NetIs w base g mb A n c vs s) (ha : I64 a) (hb : I64 b) (hn : n ≤ 4096) (z : Int) (s' : NS) (hz : ((s.down a b).1 : Int) = z) (hs : (s.down a b).2 = s') :
    Calls Try.prog 23 #[.pointer (some ⟨g, 0, none⟩), .int .i64 a, .int .i64 b] w fun e w' => ∃ n' vs', e = .returned (.int .i64 z) ∧ NetIs w' base g mb A n' c vs' s' ∧ Below base w w' := by
  subst hz hs
  refine (down_v a b w h ha hb hn).mono ?_
  rintro e w' ⟨n', vs', he, h1, h2, _⟩
  exact ⟨n', vs', he, h1, h2⟩
theorem is_is {a b : Int} {w : World} (h : NetIs w base g mb A n c vs s) (ha : I64 a) (hb : I64 b) (u : Bool) (z : Int) (hu : (s.is a b).1 = u) (hz : ((s.is a b).2 : Int) = z) :
    Calls Try.prog 19 #[.pointer (some ⟨g, 0, none⟩), .int .i64 a, .int .i64 b] w fun e w' => e = .returned (.tuple #[.bool u, .int .u64 z]) ∧ NetIs w' base g mb A n c vs s ∧ Below w.heap.size w w' := by
  subst hu hz
  refine (is_v a b w h ha hb).mono ?_
  rintro e w' ⟨he, hb⟩
  exact ⟨he, h.below hb, hb⟩
end
def M1 : NS := (NS.new.up 1 2).2
def M2 : NS := (M1.send 1 2 [120]).2
def M3 : NS := (M2.twice 1).2
def M4 : NS := (M3.take 1).2
def M5 : NS := (M4.down 1 2).2
def M6 : NS := (M5.up 1 2).2
theorem sm1 : M1.small 1 := NS.small.new.up 1 2
theorem sm2 : M2.small 2 := sm1.send 1 2 [120]
theorem sm3 : M3.small 3 := sm2.twice 1
theorem sm4 : M4.small 3 := sm3.take 1
theorem sm5 : M5.small 3 := sm4.down 1 2
theorem sm6 : M6.small 4 := sm5.up 1 2
set_option maxRecDepth 100000 in
set_option maxHeartbeats 4000000 in
theorem names_v (w : World) : Calls Try.prog 5 #[] w fun e w' => e = .returned (.bool true) ∧ Below w.heap.size w w' := by
  go_enter Try.func5, Try.ntmps5
  go_wp2_with fail
  refine (new_v w).mono ?_
  rintro e w1 ⟨g, mb, rfl, h1, b1⟩
  have H1 := Lib.hid h1
  have B1 := Lib.hid b1
  clear h1 b1
  go_wp2_with fail
  refine (up_is H1.out (by decide) (by decide) 0 NS.small.new (by omega) 0 M1 rfl rfl).mono ?_
  rintro e w2 ⟨rfl, h2, b2⟩
  have H2 := Lib.hid h2
  have B2 := Lib.hid (B1.out.trans b2)
  have hz2 := B2.out.size
  clear h2 b2 H1 B1
  have hcc := conv_const w2
  go_wp2_with fail
  have BA := Lib.hid ((Below.refl w2.heap.size w2).alloc (Nat.le_refl _) (.cells #[.int .u8 120] 5 (1, 2)))
  have B2a := Lib.hid (B2.out.trans (BA.out.mono hz2))
  refine (send_is (H2.out.below BA.out) (by decide) (by decide) (by decide) (BReads.litsm w2 [120] _ _ rfl) (by simp) (by decide) (by omega) 1 0 M2 rfl rfl rfl).mono ?_
  rintro e w3 ⟨A3, n3, c3, v3, rfl, h3, b3⟩
  have H3 := Lib.hid h3
  have B3 := Lib.hid (B2a.out.trans b3)
  have hn3 : n3 ≤ 4096 := by rw [← h3.len]; decide
  clear h3 b3 hcc BA B2a H2 B2
  go_wp2_with fail
  refine (twice_is (num := 1) H3.out hn3 (by decide) 2 0 1 M3 rfl rfl rfl rfl).mono ?_
  rintro e w4 ⟨A4, n4, c4, v4, rfl, h4, b4⟩
  have H4 := Lib.hid h4
  have B4 := Lib.hid (B3.out.trans b4)
  have hn4 : n4 ≤ 4096 := by rw [← h4.len]; decide
  clear h4 b4 H3 B3
  go_wp2_with fail
  refine (take_is (num := 1) H4.out hn4 0 1 1 1 2 1 [120] M4 rfl rfl rfl rfl rfl rfl rfl rfl).mono ?_
  rintro e w5 ⟨va, vl, vc, n5, v5, rfl, _, _, h5, b5⟩
  have H5 := Lib.hid h5
  have B5 := Lib.hid (B4.out.trans b5)
  have hn5 : n5 ≤ 4096 := by rw [← h5.len]; decide
  clear h5 b5 H4 B4
  go_wp2_with fail
  refine (down_is H5.out (by decide) (by decide) hn5 0 M5 rfl rfl).mono ?_
  rintro e w6 ⟨n6, v6, rfl, h6, b6⟩
  have H6 := Lib.hid h6
  have B6 := Lib.hid (B5.out.trans b6)
  have hn6 : n6 ≤ 4096 := by rw [← h6.len]; decide
  clear h6 b6 H5 B5
  go_wp2_with fail
  refine (take_is (num := 2) H6.out hn6 6 2 0 0 0 0 [] M5 rfl rfl rfl rfl rfl rfl rfl rfl).mono ?_
  rintro e w7 ⟨va7, vl7, vc7, n7, v7, rfl, _, _, h7, b7⟩
  have BA := Lib.hid ((Below.refl w7.heap.size w7).alloc (Nat.le_refl _) (.cells #[.int .u64 0, .int .i64 0, .int .i64 0, .int .u64 0, .slice va7 vl7 vc7] 34))
  have H7 := Lib.hid (h7.below BA.out)
  have B7 := Lib.hid (B6.out.trans b7)
  have B8 := Lib.hid (B7.out.alloc B7.out.size (.cells #[.int .u64 0, .int .i64 0, .int .i64 0, .int .u64 0, .slice va7 vl7 vc7] 34))
  have hn7 : n7 = 0 := by rw [← h7.len]; decide
  clear h7 b7 H6 B6 BA B7
  subst hn7
  go_wp2_with fail
  generalize w7.alloc (.cells #[.int .u64 0, .int .i64 0, .int .i64 0, .int .u64 0, .slice va7 vl7 vc7] 34) = w8 at *
  refine (is_is H7.out (by decide) (by decide) false 1 rfl rfl).mono ?_
  rintro e w9 ⟨rfl, h9, b9⟩
  have H9 := Lib.hid h9
  have B9 := Lib.hid (B8.out.trans (b9.mono B8.out.size))
  clear h9 b9 H7 B8
  go_wp2_with fail
  refine (lives_v w9).mono ?_
  rintro e w10 ⟨rfl, b10⟩
  have H10 := Lib.hid (H9.out.below b10)
  have B10 := Lib.hid (B9.out.trans (b10.mono B9.out.size))
  clear b10 H9 B9
  go_wp2_with fail
  refine (flight0_v w10 H10.out).mono ?_
  rintro e w11 ⟨rfl, b11⟩
  have H11 := Lib.hid (H10.out.below b11)
  have B11 := Lib.hid (B10.out.trans (b11.mono B10.out.size))
  clear b11 H10 B10
  go_wp2_with fail
  refine (up_is H11.out (by decide) (by decide) 3 sm5 (by omega) 0 M6 rfl rfl).mono ?_
  rintro e w12 ⟨rfl, h12, b12⟩
  have H12 := Lib.hid h12
  have B12 := Lib.hid (B11.out.trans b12)
  clear h12 b12 H11 B11
  go_wp2_with fail
  refine (is_is H12.out (by decide) (by decide) true 2 rfl rfl).mono ?_
  rintro e w13 ⟨rfl, h13, b13⟩
  have H13 := Lib.hid h13
  have B13 := Lib.hid (B12.out.trans (b13.mono B12.out.size))
  clear h13 b13 H12 B12
  go_wp2_with fail
  refine (up_is H13.out (by decide) (by decide) 4 sm6 (by omega) 7 M6 rfl rfl).mono ?_
  rintro e w14 ⟨rfl, h14, b14⟩
  have H14 := Lib.hid h14
  have B14 := Lib.hid (B13.out.trans b14)
  clear h14 b14 H13 B13
  go_wp2_with fail
  refine (up_is H14.out (by decide) (by decide) 4 sm6 (by omega) 2 M6 rfl rfl).mono ?_
  rintro e w15 ⟨rfl, h15, b15⟩
  have H15 := Lib.hid h15
  have B15 := Lib.hid (B14.out.trans b15)
  clear h15 b15 H14 B14
  go_wp2_with fail
  have LV := last_v w15 H15.out
  rw [show M6.last = 2 from rfl] at LV
  refine LV.mono ?_
  rintro e _ ⟨rfl, rfl⟩
  clear LV
  go_wp2_with fail
  refine (peers_v 2 w15 H15.out (by decide)).mono ?_
  rintro e w16 ⟨A16, n16, c16, rfl, ho, hn16, b16⟩
  have HO := Lib.hid ho
  have HP := Lib.hid (show M6.peers 2 = [1] by decide)
  have B16 := Lib.hid (B15.out.trans (b16.mono B15.out.size))
  have hz16 := B16.out.size
  clear ho b16 H15 B15
  rw [HP.out] at HO
  go_wp2_with fail
  refine (ints_v A16 (some ⟨w16.heap.size, 0, none⟩) n16 c16 w16.heap.size 1 1 (w16.heap.size + 1) [1] [1] _ (Reads.alloc HO.out.reads (Nat.le_refl _) _) (IReads.one _ w16 1) (by simp) (by simp) (by omega)).mono ?_
  rintro e w17 ⟨rfl, b17⟩
  have B17 := Lib.hid ((B16.out.alloc hz16 (.cells #[.int .i64 1] 3)).trans (b17.mono (by simp; omega)))
  clear b17
  go_wp2
  go_ret
  exact ⟨rfl, B17.out⟩
end Go.Proofs.Ythajlhifgafpkaa
