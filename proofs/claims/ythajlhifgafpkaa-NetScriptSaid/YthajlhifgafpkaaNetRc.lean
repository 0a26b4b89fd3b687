/-
  Nets, the reference: Up, Is.
-/
import Derived.Test.YthajlhifgafpkaaNetRb
namespace Go.Proofs.Ythajlhifgafpkaa
open Go.RowKit Go.Shelf
/-- A net of the reference, whatever its row of links. -/
def RNx (W : World) (base g : Nat) (AL : Option Addr) (nl cl : Nat) (A : Option Addr) (n c : Nat) (vs : List PkV) (s : NS) : Prop := ∃ LL, RN W base g AL nl cl LL A n c vs s
theorem ownSet {w : World} {base K n c g : Nat} {e : TypeId} {xs : List Value} (h : w.ownsRow base e K (.slice (some ⟨g, 0, none⟩) n c) n xs) (j : Nat) (u : Value) : (w.setCell ⟨g, j, none⟩ u).ownsRow base e K (.slice (some ⟨g, 0, none⟩) n c) n (xs.set j u) := by
  obtain ⟨h1, h2⟩ := h
  rcases h2 with ⟨hv, _⟩ | ⟨g', cap, cur, hv, hb, hh, hn, hm, hs, ht⟩
  · cases hv
  · injection hv with h3 h4 h5
    injection h3 with h3
    injection h3 with h3
    subst h3 h5
    exact ⟨by simp [h1], .inr ⟨g, c, cur.setIfInBounds j u, rfl, hb, heap_setCell_same w g j _ _ _ hh, hn, hm, by simp [hs], by rw [Array.toList_setIfInBounds, List.take_set, ht]⟩⟩
theorem lk_set {l l' : Lk} {v : Value} {j : Nat} (hv : l'.cells = l.cells.set j v) (hj : j < 4) : ∀ (LL : List Lk) (i : Nat), LL[i]? = some l → (LL.set i l').flatMap Lk.cells = (LL.flatMap Lk.cells).set (i * 4 + j) v
  | [], i, h => by simp at h
  | x :: r, 0, h => by
    simp only [List.getElem?_cons_zero, Option.some.injEq] at h
    subst h
    rw [List.set_cons_zero, List.flatMap_cons, List.flatMap_cons, hv, List.set_append_left _ _ (by rw [Lk.cells_len]; omega)]
    simp
  | x :: r, i + 1, h => by
    rw [List.set_cons_succ, List.flatMap_cons, List.flatMap_cons, lk_set hv hj r i (by simpa using h), List.set_append_right _ _ (by rw [Lk.cells_len]; omega), Lk.cells_len]
    congr 2
    omega
section
variable {W W' W'' : World} {base g nl cl n c nl' cl' i : Nat} {AL A AL' : Option Addr} {LL LL' : List Lk} {vs : List PkV} {s s' : NS} {l l' : Lk} {k : Int × Int}
theorem RN.lk (h : RN W base g AL nl cl LL A n c vs s) (hx : LL[i]? = some l) : ∃ gl, AL = some ⟨gl, 0, none⟩ ∧ i < nl ∧ W.cell? ⟨gl, i * 4 + 2, none⟩ = some (.bool l.up) ∧ W.cell? ⟨gl, i * 4 + 3, none⟩ = some (.int .u64 (l.run : Int)) ∧ (∀ j, W.frozen? ⟨gl, j, none⟩ = false) ∧ gl ≠ g ∧ base ≤ gl := by
  have hi : i < nl := by
    rw [← h.llen]
    exact (List.getElem?_eq_some_iff.1 hx).1
  obtain ⟨gl, l2, hA, hb, hl, h2, _, _, c2, c3⟩ := h.lat hi
  obtain rfl := Option.some.inj (hx.symm.trans h2)
  subst hA
  obtain ⟨cur, hc⟩ := own_cells' h.hl (j := gl) rfl
  exact ⟨gl, rfl, hi, c2, c3, fun j => frozen_of_row W gl j _ _ hc, fun e => h.apart.1 (by rw [← e]; rfl), hb⟩
theorem RN.setLk {gl : Nat} (h : RN W base g (some ⟨gl, 0, none⟩) nl cl LL A n c vs s) (hx : LL[i]? = some l) (hi : l.is k = true) (hno : ∀ j x, j < i → LL[j]? = some x → x.is k = false) (j : Nat) (hj : j < 4) (v : Value) (hv : l'.cells = l.cells.set j v) (ha : l'.a = l.a) (hb : l'.b = l.b) :
    RN (W.setCell ⟨gl, i * 4 + j, none⟩ v) base g (some ⟨gl, 0, none⟩) nl cl (LL.set i l') A n c vs (s.set k (l'.up, l'.run)) ∧ Below base W (W.setCell ⟨gl, i * 4 + j, none⟩ v) ∧ RCh g (some ⟨gl, 0, none⟩) nl cl A n c (some ⟨gl, 0, none⟩) nl cl A n c W (W.setCell ⟨gl, i * 4 + j, none⟩ v) := by
  obtain ⟨a1, a2, a3, a4⟩ := h.apart
  have hne : gl ≠ g := fun e => a1 (by rw [← e]; rfl)
  have hset : ∀ q, q ≠ gl → (W.setCell ⟨gl, i * 4 + j, none⟩ v).heap[q]? = W.heap[q]? := fun q hq => Below.heap_setCell W _ _ q hq
  have hbl := (h.hl.lt gl rfl).1
  refine ⟨⟨(hset g hne.symm).trans h.hg, by rw [lk_set hv hj LL i hx]; exact ownSet h.hl _ _, h.hlc, fun q => ?_, h.hf.keep (fun q hq => hset q (fun e => a3 gl rfl (e ▸ hq))) (fun u hu q hq => hset q (fun e => (a4 u hu q hq).2.1 (by rw [e]; rfl))), h.hv, h.b1⟩, (Below.refl base W).setCell hbl _, ⟨by simp [World.setCell], fun q _ _ h2 _ => hset q (fun e => h2 (by rw [e]; rfl)), fun q hq => .inl hq, fun q hq => .inl hq⟩⟩
  rw [rlook_set hx hi hno ha hb, NS.set]
  by_cases hq : q = k
  · rw [if_pos hq]
    simp [hq]
  · rw [if_neg hq]
    simpa [hq] using h.hk q
end
theorem RCh.drewN {g nl cl n c nl' cl' n' c' : Nat} {AL A AL' A' : Option Addr} {W W' : World} (h : RCh g AL nl cl A n c AL' nl' cl' A' n' c' W W') (q : Nat) : RCh g AL nl cl A n c AL' nl' cl' A' n' c' W (W'.drewN q) := h.trans (RCh.below (below_drewN (Below.refl _ _) q) _ _ _ _ _ _ _)
theorem NS.set_set (s : NS) (k : Int × Int) (v u : Bool × Nat) : (s.set k v).set k u = s.set k u := by
  unfold NS.set
  congr 1
  funext q
  by_cases h : q = k <;> simp [h]
set_option maxHeartbeats 4000000 in
theorem rup_v {base g nl cl n c : Nat} {AL A : Option Addr} {LL : List Lk} {vs : List PkV} {s : NS} (a b : Int) (w : World) (h : RN w base g AL nl cl LL A n c vs s) (hnl : nl ≤ 1000000) (N : Nat) (hN : s.small N) (hN2 : N < 1000000) :
    Calls Try.prog 46 #[.pointer (some ⟨g, 0, none⟩), .int .i64 a, .int .i64 b] w fun e w' => e = .returned (.int .i64 ((s.up a b).1 : Int)) ∧ ∃ nl' : Nat, nl' ≤ nl + 1 ∧ ∃ (cl' : Nat) (AL' : Option Addr),
      RNx w' base g AL' nl' cl' A n c vs (s.up a b).2 ∧ Below base w w' ∧ RCh g AL nl cl A n c AL' nl' cl' A n c w w' := by
  have H := Lib.hid h
  have HLK := Lib.hid (fun W (hW : RN W base g AL nl cl LL A n c vs s) => link_v a b W hW hnl)
  have HFI := Lib.hid (fun W : World => fine_v a b W)
  have hr := hN.run (keyI a b)
  have HU := Lib.hid (show s.up a b = if okDev a b = false then (2, s) else if (s.link (keyI a b)).1 = true then (7, s) else (0, s.set (keyI a b) (true, (s.link (keyI a b)).2 + 1)) from rfl)
  clear h
  go_enter Try.func46, Try.ntmps46
  go_wp2_with fail
  refine (HFI.out _).mono ?_
  rintro e _ ⟨rfl, rfl⟩
  cases hok : okDev a b with
  | false =>
    go_wp2_with fail
    go_ret
    refine ⟨by rw [HU.out, hok]; rfl, nl, Nat.le_succ _, cl, AL, by rw [HU.out, hok]; exact ⟨LL, H.out⟩, Below.refl _ _, RCh.refl _ _ _ _ _ _ _ _⟩
  | true =>
    go_wp2_with fail
    refine (HLK.out _ H.out).mono ?_
    rintro e w1 ⟨i, rfl, nl1, cl1, AL1, LL1, l, hx, hi, hno, hlk, hn1, h1, b1, r1⟩
    obtain ⟨gl, rfl, hil, c2, c3, fr, hne, hbg⟩ := h1.lk hx
    have c0 := h1.c0
    have k0 : (0 : Int) ≤ (i : Int) := by omega
    have H1 := Lib.hid h1
    have B1 := Lib.hid b1
    have R1 := Lib.hid r1
    have HX := Lib.hid (And.intro hx (And.intro hi hno))
    have HK := Lib.hid hlk
    clear h1 b1 r1 hx hi hno hlk
    cases hup : l.up with
    | true =>
      rw [hup] at c2
      go_wp2_with fail
      go_ret
      have e1 : (s.link (keyI a b)).1 = true := by rw [← HK.out]; exact hup
      refine ⟨by rw [HU.out, hok, e1]; rfl, nl1, hn1, cl1, _, by rw [HU.out, hok, e1]; exact ⟨LL1, H1.out⟩, B1.out, R1.out⟩
    | false =>
      rw [hup] at c2
      have f2 := fr (i * 4 + 2)
      go_upto_region 7 with fail
      obtain ⟨h2, b2, r2⟩ := H1.out.setLk (l' := ⟨l.a, l.b, true, l.run⟩) HX.out.1 HX.out.2.1 HX.out.2.2 2 (by omega) (.bool true) rfl rfl rfl
      have hx2 : (LL1.set i ⟨l.a, l.b, true, l.run⟩)[i]? = some ⟨l.a, l.b, true, l.run⟩ := by
        rw [List.getElem?_set_self (List.getElem?_eq_some_iff.1 HX.out.1).1]
      obtain ⟨gl2, e2, _, _, d3, fr2, _, _⟩ := h2.lk hx2
      injection e2 with e2
      injection e2 with e2
      subst e2
      have d0 := h2.c0
      obtain ⟨h3, b3, r3⟩ := h2.setLk (l' := ⟨l.a, l.b, true, l.run + 1⟩) hx2 HX.out.2.1 (fun j x hj hjx => by
        rw [List.getElem?_set_ne (by omega)] at hjx
        exact HX.out.2.2 j x hj hjx) 3 (by omega) (.int .u64 ((l.run : Int) + 1)) (by simp [Lk.cells]) rfl rfl
      have f3 := fr2 (i * 4 + 3)
      have hrun : l.run ≤ N := by rw [← HK.out] at hr; exact hr
      have hw : IntKind.u64.wrap ((l.run : Int) + 1) = (l.run : Int) + 1 := IntWalk.u64_in _ (by omega)
      have H3 := Lib.hid h3
      have B3 := Lib.hid ((B1.out.trans b2).trans b3)
      have R3 := Lib.hid ((R1.out.trans r2).trans r3)
      clear h3 b3 r3 b2 r2 c2 c3 c0 h2
      generalize w1.setCell ⟨gl, i * 4 + 2, none⟩ (.bool true) = w2 at *
      go_wp2_with fail
      have e1 : (s.link (keyI a b)).1 = false := by rw [← HK.out]; exact hup
      have e2 : (s.link (keyI a b)).2 = l.run := by rw [← HK.out]
      have HZ := Lib.hid (show s.up a b = (0, s.set (keyI a b) (true, l.run + 1)) by rw [HU.out, hok, e1, e2]; rfl)
      go_ret
      rw [HZ.out]
      have h4 := H3.out
      rw [NS.set_set] at h4
      exact ⟨rfl, nl1, hn1, cl1, _, ⟨_, h4⟩, B3.out, R3.out⟩
set_option maxHeartbeats 4000000 in
theorem ris_v {base g nl cl n c : Nat} {AL A : Option Addr} {vs : List PkV} {s : NS} (a b : Int) (w : World) (h : RNx w base g AL nl cl A n c vs s) (hnl : nl ≤ 1000000) :
    Calls Try.prog 30 #[.pointer (some ⟨g, 0, none⟩), .int .i64 a, .int .i64 b] w fun e w' => e = .returned (.tuple #[.bool (s.is a b).1, .int .u64 ((s.is a b).2 : Int)]) ∧ ∃ nl' : Nat, nl' ≤ nl + 1 ∧ ∃ (cl' : Nat) (AL' : Option Addr),
      RNx w' base g AL' nl' cl' A n c vs s ∧ Below base w w' ∧ RCh g AL nl cl A n c AL' nl' cl' A n c w w' := by
  obtain ⟨LL, h⟩ := h
  have H := Lib.hid h
  have HLK := Lib.hid (fun W (hW : RN W base g AL nl cl LL A n c vs s) => link_v a b W hW hnl)
  have HFI := Lib.hid (fun W : World => fine_v a b W)
  have HU := Lib.hid (show s.is a b = if okDev a b = false then (false, 0) else s.link (keyI a b) from rfl)
  generalize s.is a b = r at *
  clear h
  go_enter Try.func30, Try.ntmps30
  go_wp2_with fail
  refine (HFI.out _).mono ?_
  rintro e _ ⟨rfl, rfl⟩
  cases hok : okDev a b with
  | false =>
    go_wp2_with fail
    go_ret2
    refine ⟨by rw [HU.out, hok]; rfl, nl, Nat.le_succ _, cl, AL, ⟨LL, H.out⟩, Below.refl _ _, RCh.refl _ _ _ _ _ _ _ _⟩
  | true =>
    go_wp2_with fail
    refine (HLK.out _ H.out).mono ?_
    rintro e w1 ⟨i, rfl, nl1, cl1, AL1, LL1, l, hx, hi, hno, hlk, hn1, h1, b1, r1⟩
    obtain ⟨gl, rfl, hil, c2, c3, fr, hne, hbg⟩ := h1.lk hx
    have c0 := h1.c0
    have k0 : (0 : Int) ≤ (i : Int) := by omega
    have HK := Lib.hid hlk
    have H1 := Lib.hid h1
    have B1 := Lib.hid b1
    have R1 := Lib.hid r1
    clear h1 b1 r1 hx hi hno hlk
    go_upto_region 4 with fail
    go_quiet (fail)
    go_wp2_with fail
    go_ret2
    refine ⟨?_, nl1, hn1, cl1, _, ⟨LL1, H1.out.drewN nq⟩, below_drewN B1.out nq, R1.out.drewN nq⟩
    rw [HU.out, hok, ← HK.out]
    rfl
end Go.Proofs.Ythajlhifgafpkaa
