/-
  Tables in memory: join.
-/
import Derived.Test.YtohcdnbchidjeaaTabX
import Derived.Test.YtohcdnbchidjeaaText
namespace Go.Proofs.Ytohcdnbchidjeaa
open Go.RowKit
def JoinPost (w : World) (t : Tr) (e : Ending) (w' : World) : Prop := ∃ p, e = .returned (.pointer p) ∧ Rep w' w'.heap.size t p ∧ Below w.heap.size w w'
set_option maxHeartbeats 2000000 in
theorem join_v : ∀ (n : Nat) (s t : Tr) (B : Nat) (p q : Option Addr) (w : World) (_ : Rep w B s p) (_ : Rep w B t q) (_ : B ≤ w.heap.size) (_ : s.cnt + t.cnt ≤ n) (_ : s.cnt + t.cnt ≤ 1000000),
    Calls Try.prog 39 #[.pointer p, .pointer q] w (JoinPost w (Tr.join s t))
  | _, .nil, t, B, p, q, w, hs, ht, hB, _, _ => by
    obtain rfl : p = none := hs
    have HR := Lib.hid (Rep.more hB ht)
    have HJ := Lib.hid (join_nil_l t)
    go_enter Try.func39, Try.ntmps39
    go_wp2
    go_ret
    rw [JoinPost, HJ.out]
    exact ⟨q, rfl, HR.out, Below.refl _ _⟩
  | _, .node l k v r, .nil, B, p, q, w, hs, ht, hB, _, _ => by
    have HR := Lib.hid (Rep.more hB hs)
    obtain ⟨b, pl, pr, rfl, _, _, _, _⟩ := hs
    obtain rfl : q = none := ht
    have HJ := Lib.hid (join_nil_r (.node l k v r))
    go_enter Try.func39, Try.ntmps39
    go_wp2
    go_ret
    rw [JoinPost, HJ.out]
    exact ⟨_, rfl, HR.out, Below.refl _ _⟩
  | 0, .node l k v r, .node l' k' v' r', B, p, q, w, _, _, _, h, _ => by simp [Tr.cnt] at h
  | n + 1, .node l k v r, .node l' k' v' r', B, p, q, w, hs, ht, hB, hn, hm => by
    have ih := join_v n
    have HS := Lib.hid hs
    have HT := Lib.hid ht
    obtain ⟨b, pl, pr, rfl, hb, ⟨h0, h1, h2, h3, h4, h5⟩, hl, hr⟩ := hs
    obtain ⟨c, ql, qr, rfl, hc, ⟨g0, g1, g2, g3, g4, g5⟩, gl, gr⟩ := ht
    have hbw := Nat.lt_of_lt_of_le hb hB
    have hcw := Nat.lt_of_lt_of_le hc hB
    have AB := above_v b c k k' w h0 h2 g0 g2
    have N1 : Hid ((l.cnt + r.cnt + 1) + (l'.cnt + r'.cnt + 1) ≤ n + 1 ∧ (l.cnt + r.cnt + 1) + (l'.cnt + r'.cnt + 1) ≤ 1000000) := Lib.hid ⟨hn, hm⟩
    have HL := Lib.hid hl
    have HR := Lib.hid hr
    have GL := Lib.hid gl
    have GR := Lib.hid gr
    have IH := Lib.hid ih
    have HAB := Lib.hid AB
    clear hl hr gl gr ih hn hm AB
    cases hk : abv k k'
    · have HJ := Lib.hid (join_no l r l' r' k v k' v' hk)
      have HK := Lib.hid hk
      clear hk
      go_enter Try.func39, Try.ntmps39
      go_wp2_with fail
      refine HAB.out.mono ?_
      rw [HK.out]
      rintro e w' ⟨rfl, nd, rfl⟩
      have hW : Below w.heap.size w (w.drewN nd) := below_drewN (Below.refl _ _) nd
      have hz := Lib.hid (show (w.drewN nd).heap.size = w.heap.size from rfl)
      obtain ⟨h0, h1, h2, h3, h4, h5⟩ := nodeKeep hW hbw h0 h1 h2 h3 h4 h5
      obtain ⟨g0, g1, g2, g3, g4, g5⟩ := nodeKeep hW hcw g0 g1 g2 g3 g4 g5
      have HS1 := Lib.hid (HS.out.drewN nd)
      have HT1 := Lib.hid (HT.out.drewN nd)
      have HL1 := Lib.hid (HL.out.drewN nd)
      have HR1 := Lib.hid (HR.out.drewN nd)
      have GL1 := Lib.hid (GL.out.drewN nd)
      have GR1 := Lib.hid (GR.out.drewN nd)
      have hbW : b < (w.drewN nd).heap.size := hbw
      have hcW : c < (w.drewN nd).heap.size := hcw
      have hBW : B ≤ (w.drewN nd).heap.size := hB
      clear HS HT HL HR GL GR HAB
      generalize w.drewN nd = W at *
      have HW := Lib.hid hW
      clear hW
      have q4 : ∀ V, Below W.heap.size W V → V.cell? ⟨c, 4, none⟩ = some (.pointer ql) := fun V h => (h.cell (p := ⟨c, 4, none⟩) hcW).trans g4
      have q5 : ∀ V, Below W.heap.size W V → V.cell? ⟨c, 5, none⟩ = some (.pointer qr) := fun V h => (h.cell (p := ⟨c, 5, none⟩) hcW).trans g5
      go_wp2_with fail
      refine wp_region_text [(0, false), (1, false), (2, false), (3, false), (4, false), (5, false), (7, false), (8, false), (9, false), (10, false), (6, true), (11, true), (12, false)] (fun V => Below W.heap.size W V) (by kernel_rfl) (by kernel_rfl) (by kernel_rfl) (by kernel_rfl) (by kernel_rfl) (fun _ => ?_)
      simp only [outOf, List.getElem?_cons_zero, List.getElem?_cons_succ, Option.getD_some]
      have hS := (Below.refl W.heap.size W).drew
      iterate 10 ((first | (refine TW.val2 (v := ?_) ?_ ?_ ?_ ?_ ?_; rotate_left; (focus rfl); (focus (intro W hSW; (try dsimp only at hSW); go_simp; (try with_reducible rfl); done)); (focus exact fun _ _ _ h => h); (focus assumption)) | (refine TW.skip (e := false) ?_ ?_ ?_ ?_; (focus rfl); (focus exact fun _ _ _ h => h); (focus assumption))); simp only [Act.put, List.setIfInBounds_toArray, List.set_cons_zero, List.set_cons_succ])
      refine TW.eff (by rfl) (fun K hK => ?_); go_simp
      refine (IH.out (.node l k v r) l' B _ ql W.drew HS1.out.drew GL1.out.drew hBW (by have := N1.out; simp only [Tr.cnt]; omega) (by have := N1.out; simp only [Tr.cnt]; omega)).mono ?_
      rintro e w1 ⟨p1, rfl, r1, hb1⟩
      have hb2 : Below W.heap.size W w1 := hS.trans hb1
      obtain ⟨k0, k1, k2, k3, k4, k5⟩ := nodeKeep hb2 hcW g0 g1 g2 g3 g4 g5
      have HR2 := Lib.hid (Rep.more (Nat.le_trans hBW hb2.size) (Rep.below GR1.out (hb2.mono hBW)))
      have HC := Lib.hid (cnt_join (.node l k v r) l')
      go_wp2_with fail; refine hK.out _ _ hb2 ?_; clear hK; (try simp only [Act.put, List.setIfInBounds_toArray, List.set_cons_zero, List.set_cons_succ])
      refine TW.eff (by rfl) (fun K hK => ?_); go_simp
      refine (with_v w1.heap.size c k' v' _ ql qr p1 qr (Tr.join (.node l k v r) l') r' w1 (Nat.le_refl _) k0 k1 k2 k3 k4 k5 r1 HR2.out (by have := N1.out; have := HC.out; simp only [Tr.cnt] at this; omega)).mono ?_
      rintro e w2 ⟨p2, rfl, r2, hb3⟩
      have hb4 : Below W.heap.size W w2 := btwo hb2 hb3
      go_wp2_with fail; refine hK.out _ _ hb4 ?_; clear hK; (try simp only [Act.put, List.setIfInBounds_toArray, List.set_cons_zero, List.set_cons_succ])
      iterate 1 ((first | (refine TW.val2 (v := ?_) ?_ ?_ ?_ ?_ ?_; rotate_left; (focus rfl); (focus (intro W hSW; (try dsimp only at hSW); go_simp; (try with_reducible rfl); done)); (focus exact fun _ _ _ h => h); (focus assumption)) | (refine TW.skip (e := false) ?_ ?_ ?_ ?_; (focus rfl); (focus exact fun _ _ _ h => h); (focus assumption))); simp only [Act.put, List.setIfInBounds_toArray, List.set_cons_zero, List.set_cons_succ])
      refine TW.done ?_
      go_wp2
      go_ret
      rw [JoinPost, HJ.out]
      exact ⟨p2, rfl, r2, HW.out.trans (hb4.mono (by rw [hz.out]; exact Nat.le_refl _))⟩
    · have HJ := Lib.hid (join_yes l r l' r' k v k' v' hk)
      have HK := Lib.hid hk
      clear hk
      go_enter Try.func39, Try.ntmps39
      go_wp2_with fail
      refine HAB.out.mono ?_
      rw [HK.out]
      rintro e w' ⟨rfl, nd, rfl⟩
      have hW : Below w.heap.size w (w.drewN nd) := below_drewN (Below.refl _ _) nd
      have hz := Lib.hid (show (w.drewN nd).heap.size = w.heap.size from rfl)
      obtain ⟨h0, h1, h2, h3, h4, h5⟩ := nodeKeep hW hbw h0 h1 h2 h3 h4 h5
      obtain ⟨g0, g1, g2, g3, g4, g5⟩ := nodeKeep hW hcw g0 g1 g2 g3 g4 g5
      have HS1 := Lib.hid (HS.out.drewN nd)
      have HT1 := Lib.hid (HT.out.drewN nd)
      have HL1 := Lib.hid (HL.out.drewN nd)
      have HR1 := Lib.hid (HR.out.drewN nd)
      have GL1 := Lib.hid (GL.out.drewN nd)
      have GR1 := Lib.hid (GR.out.drewN nd)
      have hbW : b < (w.drewN nd).heap.size := hbw
      have hcW : c < (w.drewN nd).heap.size := hcw
      have hBW : B ≤ (w.drewN nd).heap.size := hB
      clear HS HT HL HR GL GR HAB
      generalize w.drewN nd = W at *
      have HW := Lib.hid hW
      clear hW
      have q4 : ∀ V, Below W.heap.size W V → V.cell? ⟨b, 4, none⟩ = some (.pointer pl) := fun V h => (h.cell (p := ⟨b, 4, none⟩) hbW).trans h4
      have q5 : ∀ V, Below W.heap.size W V → V.cell? ⟨b, 5, none⟩ = some (.pointer pr) := fun V h => (h.cell (p := ⟨b, 5, none⟩) hbW).trans h5
      go_wp2_with fail
      refine wp_region_text [(0, false), (1, false), (2, false), (3, false), (4, false), (5, false), (6, false), (7, false), (8, false), (9, false), (10, true), (11, true), (12, false)] (fun V => Below W.heap.size W V) (by kernel_rfl) (by kernel_rfl) (by kernel_rfl) (by kernel_rfl) (by kernel_rfl) (fun _ => ?_)
      simp only [outOf, List.getElem?_cons_zero, List.getElem?_cons_succ, Option.getD_some]
      have hS := (Below.refl W.heap.size W).drew
      iterate 10 ((first | (refine TW.val2 (v := ?_) ?_ ?_ ?_ ?_ ?_; rotate_left; (focus rfl); (focus (intro W hSW; (try dsimp only at hSW); go_simp; (try with_reducible rfl); done)); (focus exact fun _ _ _ h => h); (focus assumption)) | (refine TW.skip (e := false) ?_ ?_ ?_ ?_; (focus rfl); (focus exact fun _ _ _ h => h); (focus assumption))); simp only [Act.put, List.setIfInBounds_toArray, List.set_cons_zero, List.set_cons_succ])
      refine TW.eff (by rfl) (fun K hK => ?_); go_simp
      refine (IH.out r (.node l' k' v' r') B pr _ W.drew HR1.out.drew HT1.out.drew hBW (by have := N1.out; simp only [Tr.cnt]; omega) (by have := N1.out; simp only [Tr.cnt]; omega)).mono ?_
      rintro e w1 ⟨p1, rfl, r1, hb1⟩
      have hb2 : Below W.heap.size W w1 := hS.trans hb1
      obtain ⟨k0, k1, k2, k3, k4, k5⟩ := nodeKeep hb2 hbW h0 h1 h2 h3 h4 h5
      have HR2 := Lib.hid (Rep.more (Nat.le_trans hBW hb2.size) (Rep.below HL1.out (hb2.mono hBW)))
      have HC := Lib.hid (cnt_join r (.node l' k' v' r'))
      go_wp2_with fail; refine hK.out _ _ hb2 ?_; clear hK; (try simp only [Act.put, List.setIfInBounds_toArray, List.set_cons_zero, List.set_cons_succ])
      refine TW.eff (by rfl) (fun K hK => ?_); go_simp
      refine (with_v w1.heap.size b k v _ pl pr pl p1 l (Tr.join r (.node l' k' v' r')) w1 (Nat.le_refl _) k0 k1 k2 k3 k4 k5 HR2.out r1 (by have := N1.out; have := HC.out; simp only [Tr.cnt] at this; omega)).mono ?_
      rintro e w2 ⟨p2, rfl, r2, hb3⟩
      have hb4 : Below W.heap.size W w2 := btwo hb2 hb3
      go_wp2_with fail; refine hK.out _ _ hb4 ?_; clear hK; (try simp only [Act.put, List.setIfInBounds_toArray, List.set_cons_zero, List.set_cons_succ])
      iterate 1 ((first | (refine TW.val2 (v := ?_) ?_ ?_ ?_ ?_ ?_; rotate_left; (focus rfl); (focus (intro W hSW; (try dsimp only at hSW); go_simp; (try with_reducible rfl); done)); (focus exact fun _ _ _ h => h); (focus assumption)) | (refine TW.skip (e := false) ?_ ?_ ?_ ?_; (focus rfl); (focus exact fun _ _ _ h => h); (focus assumption))); simp only [Act.put, List.setIfInBounds_toArray, List.set_cons_zero, List.set_cons_succ])
      refine TW.done ?_
      go_wp2
      go_ret
      rw [JoinPost, HJ.out]
      exact ⟨p2, rfl, r2, HW.out.trans (hb4.mono (by rw [hz.out]; exact Nat.le_refl _))⟩
end Go.Proofs.Ytohcdnbchidjeaa
