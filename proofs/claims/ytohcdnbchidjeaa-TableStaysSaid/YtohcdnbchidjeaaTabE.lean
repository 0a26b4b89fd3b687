/-
  Tables in memory: going over the nodes (each), for any function value.
-/
import Derived.Test.YtohcdnbchidjeaaTabP
namespace Go.Proofs.Ytohcdnbchidjeaa
open Go.RowKit
theorem goU_cons_yes {σ : Type} {step : σ → KV → σ × Bool} {x : KV} {l : List KV} {s : σ} (h : (step s x).2 = true) : goU step (x :: l) s = goU step l (step s x).1 := by rw [goU, if_pos h]
theorem goU_cons_no {σ : Type} {step : σ → KV → σ × Bool} {x : KV} {l : List KV} {s : σ} (h : (step s x).2 = false) : goU step (x :: l) s = ((step s x).1, false) := by rw [goU, if_neg (by simp [h])]
theorem goU_app_yes {σ : Type} {step : σ → KV → σ × Bool} {l m : List KV} {s : σ} (h : (goU step l s).2 = true) : goU step (l ++ m) s = goU step m (goU step l s).1 := by rw [goU_app, if_pos h]
theorem goU_app_no {σ : Type} {step : σ → KV → σ × Bool} {l m : List KV} {s : σ} (h : (goU step l s).2 = false) : goU step (l ++ m) s = ((goU step l s).1, false) := by rw [goU_app, if_neg (by simp [h])]
def EachPost {σ : Type} (step : σ → KV → σ × Bool) (I : Nat → σ → World → Prop) (m : Nat) (l : List KV) (s : σ) (e : Ending) (W' : World) : Prop := e = .returned (.bool (goU step l s).2) ∧ I m (goU step l s).1 W'
set_option maxHeartbeats 1000000 in
theorem each_v {σ : Type} (step : σ → KV → σ × Bool) (I : Nat → σ → World → Prop) (F : FuncId) (caps : Array Value) (B : Nat) (w0 : World)
    (hcf : ∀ args W, (callFunc F args).run Try.prog W = .ok (.enter F args) W)
    (hI : ∀ m s W, I m s W → Below B w0 W) (hmono : ∀ m m' s W, m' ≤ m → I m s W → I m' s W)
    (hstep : ∀ m s W b k v, I (m + 1) s W → W.cell? ⟨b, 0, none⟩ = some (.string k) → W.cell? ⟨b, 1, none⟩ = some (.string v) → b < B →
      Calls Try.prog F (#[.pointer (some ⟨b, 0, none⟩)] ++ caps) W fun e W' => e = .returned (.bool (step s (k, v)).2) ∧ I m (step s (k, v)).1 W') :
    ∀ (t : Tr) (p : Option Addr) (q : ByteArray) (m : Nat) (s : σ) (W : World), Rep w0 B t p → I (m + t.cnt) s W →
      Calls Try.prog 44 #[.pointer p, .string q, .func (.func F) #[] caps] W (EachPost step I m (t.sel q) s)
  | .nil, p, q, m, s, W, h, hs => by
    obtain rfl : p = none := h
    go_enter Try.func44, Try.ntmps44
    go_wp2
    go_ret
    exact ⟨rfl, hs⟩
  | .node l k v r, p, q, m, s, W, h, hs => by
    have ihl := each_v step I F caps B w0 hcf hI hmono hstep l
    have ihr := each_v step I F caps B w0 hcf hI hmono hstep r
    obtain ⟨b, pl, pr, rfl, hb, ⟨h0, h1, _, _, h4, h5⟩, hl, hr⟩ := h
    have IL := Lib.hid ihl
    have IR := Lib.hid ihr
    have HI := Lib.hid hI
    have HST := Lib.hid hstep
    have hcn : m + (Tr.node l k v r).cnt = ((m + r.cnt) + 1) + l.cnt := by simp only [Tr.cnt]; omega
    have HS := Lib.hid hs
    rw [hcn] at HS
    clear hcn
    have HM := Lib.hid hmono
    have HL := Lib.hid hl
    have HR := Lib.hid hr
    have HC := Lib.hid hcf
    have H0 := Lib.hid h0
    have H1 := Lib.hid h1
    have H5 := Lib.hid h5
    have g0 : W.cell? ⟨b, 0, none⟩ = some (.string k) := ((hI _ s W hs).cell (p := ⟨b, 0, none⟩) hb).trans h0
    have g4 : W.cell? ⟨b, 4, none⟩ = some (.pointer pl) := ((hI _ s W hs).cell (p := ⟨b, 4, none⟩) hb).trans h4
    have g5 : W.cell? ⟨b, 5, none⟩ = some (.pointer pr) := ((hI _ s W hs).cell (p := ⟨b, 5, none⟩) hb).trans h5
    clear ihl ihr hI hstep hs hmono hl hr hcf h0 h1 h4 h5
    cases hk : klt k q
    · have HSEL := Lib.hid (show (Tr.node l k v r).sel q = l.sel q ++ (k, v) :: r.sel ⟨#[]⟩ by simp [Tr.sel, hk])
      have d1 : Op.bytesLess k.toList q.toList = false := hk
      clear hk g5
      cases x1 : (goU step (l.sel q) s).2
      · have HX := Lib.hid x1
        clear x1
        go_enter Try.func44, Try.ntmps44
        go_wp2_with fail
        refine (IL.out pl q _ s W HL.out HS.out).mono ?_
        intro e W1 hE
        rw [EachPost, HX.out] at hE
        obtain ⟨rfl, hi1⟩ := hE
        go_wp2
        go_ret
        rw [EachPost, HSEL.out, goU_app_no HX.out]
        exact ⟨rfl, HM.out _ _ _ _ (by omega) hi1⟩
      · have HX := Lib.hid x1
        clear x1
        cases x2 : (step (goU step (l.sel q) s).1 (k, v)).2
        · have HY := Lib.hid x2
          clear x2
          go_enter Try.func44, Try.ntmps44
          go_wp2_with fail
          refine (IL.out pl q _ s W HL.out HS.out).mono ?_
          intro e W1 hE
          rw [EachPost, HX.out] at hE
          obtain ⟨rfl, hi1⟩ := hE
          have hw := fun args => HC.out args W1
          go_wp2_with fail
          clear hw
          refine (HST.out _ _ W1 b k v hi1 (((HI.out _ _ W1 hi1).cell (p := ⟨b, 0, none⟩) hb).trans H0.out) (((HI.out _ _ W1 hi1).cell (p := ⟨b, 1, none⟩) hb).trans H1.out) hb).mono ?_
          rw [HY.out]
          rintro e W2 ⟨rfl, hi2⟩
          go_wp2
          go_ret
          rw [EachPost, HSEL.out, goU_app_yes HX.out, goU_cons_no HY.out]
          exact ⟨rfl, HM.out _ _ _ _ (by omega) hi2⟩
        · have HY := Lib.hid x2
          clear x2
          go_enter Try.func44, Try.ntmps44
          go_wp2_with fail
          refine (IL.out pl q _ s W HL.out HS.out).mono ?_
          intro e W1 hE
          rw [EachPost, HX.out] at hE
          obtain ⟨rfl, hi1⟩ := hE
          have hw := fun args => HC.out args W1
          go_wp2_with fail
          clear hw
          refine (HST.out _ _ W1 b k v hi1 (((HI.out _ _ W1 hi1).cell (p := ⟨b, 0, none⟩) hb).trans H0.out) (((HI.out _ _ W1 hi1).cell (p := ⟨b, 1, none⟩) hb).trans H1.out) hb).mono ?_
          rw [HY.out]
          rintro e W2 ⟨rfl, hi2⟩
          have g5 : W2.cell? ⟨b, 5, none⟩ = some (.pointer pr) := ((HI.out _ _ W2 hi2).cell (p := ⟨b, 5, none⟩) hb).trans H5.out
          go_wp2_with fail
          refine (IR.out pr ⟨#[]⟩ m _ W2 HR.out hi2).mono ?_
          rintro e W3 ⟨rfl, hi3⟩
          go_wp2
          go_ret
          rw [EachPost, HSEL.out, goU_app_yes HX.out, goU_cons_yes HY.out]
          exact ⟨rfl, hi3⟩
    · have HSEL := Lib.hid (show (Tr.node l k v r).sel q = r.sel q by simp [Tr.sel, hk])
      have d1 : Op.bytesLess k.toList q.toList = true := hk
      clear hk g4
      go_enter Try.func44, Try.ntmps44
      go_wp2_with fail
      refine (IR.out pr q m s W HR.out (HM.out _ _ _ _ (by omega) HS.out)).mono ?_
      rintro e W1 ⟨rfl, hi1⟩
      go_wp2
      go_ret
      rw [EachPost, HSEL.out]
      exact ⟨rfl, hi1⟩
end Go.Proofs.Ytohcdnbchidjeaa
