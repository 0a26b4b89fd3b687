/-
  Records: few parts each.
-/
import Derived.Test.YtndekohimfjdeaaDoorRecI
namespace Go.Proofs.YtndekohimfjdeaaDoor
open Go.RowKit Go.Shelf
/-- Has a record few parts? -/
def lightX (most : Nat) (x : Rcd × RSh) : Bool := decide (x.1.path.length ≤ most) && decide (x.2.n ≤ most) && decide (x.2.m ≤ most)
set_option maxRecDepth 100000 in
set_option maxHeartbeats 4000000 in
theorem light_v (r : Rcd) (a : RSh) (most : Nat) (w : World) :
    Calls Tryd.prog 14 #[.agg #[.string (st r.path), .slice a.A a.n a.c, .int .i64 r.dev, .bool r.gone, .int .i64 r.size, .int .i64 r.len, .slice a.D a.m a.k], .int .i64 (most : Int)] w fun e w' => e = .returned (.bool (lightX most (r, a))) ∧ Below w.heap.size w w' := by
  have BA := Lib.hid ((Below.refl w.heap.size w).alloc (Nat.le_refl _) (.cells #[.string (st r.path), .slice a.A a.n a.c, .int .i64 r.dev, .bool r.gone, .int .i64 r.size, .int .i64 r.len, .slice a.D a.m a.k] 27))
  have X := heap_alloc_new w (.cells #[.string (st r.path), .slice a.A a.n a.c, .int .i64 r.dev, .bool r.gone, .int .i64 r.size, .int .i64 r.len, .slice a.D a.m a.k] 27)
  have c0 := cell_of_row _ _ 0 _ _ _ X
  have c1 := cell_of_row _ _ 1 _ _ _ X
  have c6 := cell_of_row _ _ 6 _ _ _ X
  have hz := st_size r.path
  clear X
  go_enter Tryd.func14, Tryd.ntmps14
  by_cases h1 : r.path.length ≤ most
  · have d1 : decide (((st r.path).size : Int) ≤ (most : Int)) = true := decide_eq_true (by omega)
    have d1n : decide ((st r.path).size ≤ most) = true := decide_eq_true (by omega)
    by_cases h2 : a.n ≤ most
    · have d2 : decide ((a.n : Int) ≤ (most : Int)) = true := decide_eq_true (by omega)
      have d2n : decide (a.n ≤ most) = true := decide_eq_true (by omega)
      by_cases h3 : a.m ≤ most
      · have d3 : decide ((a.m : Int) ≤ (most : Int)) = true := decide_eq_true (by omega)
        have d3n : decide (a.m ≤ most) = true := decide_eq_true (by omega)
        have HF := Lib.hid (show lightX most (r, a) = true by simp [lightX, h1, h2, h3])
        clear h1 h2 h3 hz
        go_wp2
        go_ret
        exact ⟨by rw [HF.out]; first | rfl | simp [d3], BA.out⟩
      · have d3 : decide ((a.m : Int) ≤ (most : Int)) = false := decide_eq_false (by omega)
        have d3n : decide (a.m ≤ most) = false := decide_eq_false (by omega)
        have HF := Lib.hid (show lightX most (r, a) = false by simp [lightX, h3])
        clear h1 h2 h3 hz
        go_wp2
        go_ret
        exact ⟨by rw [HF.out]; first | rfl | simp [d3], BA.out⟩
    · have d2 : decide ((a.n : Int) ≤ (most : Int)) = false := decide_eq_false (by omega)
      have d2n : decide (a.n ≤ most) = false := decide_eq_false (by omega)
      have HF := Lib.hid (show lightX most (r, a) = false by simp [lightX, h2])
      clear h1 h2 hz
      go_wp2
      go_ret
      exact ⟨by rw [HF.out]; first | rfl | simp [d2], BA.out⟩
  · have d1 : decide (((st r.path).size : Int) ≤ (most : Int)) = false := decide_eq_false (by omega)
    have d1n : decide ((st r.path).size ≤ most) = false := decide_eq_false (by omega)
    have HF := Lib.hid (show lightX most (r, a) = false by simp [lightX, h1])
    clear h1 hz
    go_wp2
    go_ret
    exact ⟨by rw [HF.out]; first | rfl | simp [d1], BA.out⟩
theorem reads7_at {w : World} {B n k : Nat} {A : Option Addr} {l : List (Rcd × RSh)} (h : Reads w B 7 A n (l.flatMap rcC)) (hl : l.length = n) (hk : k < n) :
    ∃ ad x, A = some ad ∧ l[k]? = some x ∧ ∀ W, Below B w W → ∀ j u, (rcC x)[j]? = some u → W.cell? ((ad.add (k * 7)).add j) = some u := by
  have hl : k < l.length := by omega
  obtain ⟨ad, e, hb, hc⟩ := h.2 (by omega)
  refine ⟨ad, l[k], e, List.getElem?_eq_getElem hl, fun W hW j u hu => ?_⟩
  have hj : j < 7 := by
    have := (List.getElem?_eq_some_iff.1 hu).1
    rwa [rcC_len] at this
  rw [add_of_add]
  refine (hW.cell (p := ad.add (k * 7 + j)) (by rw [block_of_add]; exact hb)).trans (hc _ u ?_)
  rw [flat_at rcC_len l (List.getElem?_eq_getElem hl) hj]
  exact hu
theorem all_step {α : Type} {p : α → Bool} {l : List α} {k : Nat} {x : α} (h : ((l.take k).all p) = true) (hx : l[k]? = some x) (hp : p x = true) : ((l.take (k + 1)).all p) = true := by
  rw [List.take_add_one, hx, List.all_append, h]
  simpa using hp
theorem all_not {α : Type} {p : α → Bool} {l : List α} {k : Nat} {x : α} (hx : l[k]? = some x) (hp : p x = false) : l.all p = false := by
  obtain ⟨hk, e⟩ := List.getElem?_eq_some_iff.1 hx
  rw [List.all_eq_false]
  exact ⟨x, e ▸ List.getElem_mem hk, by rw [hp]; decide⟩
/-- Have records few parts each, and are they few? -/
def lightsX (most n : Nat) (l : List (Rcd × RSh)) : Bool := decide (l.length ≤ n) && l.all (lightX most)
set_option maxRecDepth 100000 in
set_option maxHeartbeats 8000000 in
theorem lights_v (l : List (Rcd × RSh)) (A : Option Addr) (len c B n most : Nat) (w : World) (hr : Reads w B 7 A len (l.flatMap rcC)) (hll : l.length = len) (hB : B ≤ w.heap.size) (hn : n ≤ 1000) (hlen : len ≤ 9007199254740992) :
    Calls Tryd.prog 8 #[.slice A len c, .int .i64 (n : Int), .int .i64 (most : Int)] w fun e w' => e = .returned (.bool (lightsX most n l)) ∧ Below w.heap.size w w' := by
  have HI := Lib.hid (show (Tryd.prog.info? 27).map (·.size) = some 7 by kernel_rfl)
  have HR := Lib.hid hr
  clear hr
  go_enter Tryd.func8, Tryd.ntmps8
  go_upto_region 2 with fail
  go_loopw [7] (fun i wr => ∃ k : Nat, k ≤ len ∧ k ≤ n + 1 ∧ i = .int .i64 (k : Int) ∧ ((l.take k).all (lightX most)) = true ∧ Below w.heap.size w wr) (fun i _ => len - (intOf i).toNat)
  case atStart => exact ⟨0, Nat.zero_le _, Nat.zero_le _, rfl, by simp, Below.refl _ _⟩
  case round =>
    obtain ⟨k, hk, hk2, rfl, hal, hb⟩ := hrel
    have HA := Lib.hid hal
    clear hal
    have k0 : (0 : Int) ≤ (k : Int) := by omega
    by_cases hlt : k < len
    · have d1 : decide ((k : Int) < (len : Int)) = true := decide_eq_true (by omega)
      have d1n : decide (k < len) = true := decide_eq_true (by omega)
      by_cases hle : k ≤ n
      · have d2 : decide ((k : Int) ≤ (n : Int)) = true := decide_eq_true (by omega)
        have d2n : decide (k ≤ n) = true := decide_eq_true (by omega)
        obtain ⟨ad, x, rfl, hx, hc⟩ := reads7_at HR.out hll hlt
        have HX := Lib.hid hx
        have HC := Lib.hid (hc wr (hb.mono hB))
        have HB := Lib.hid hb
        clear hx hc hb
        go_wp2_with (first
          | (refine wpList_load_slot rfl 27 (.tmp 21) rfl (ad.add (k * 7)) rfl [.string (st x.1.path), .slice x.2.A x.2.n x.2.c, .int .i64 x.1.dev, .bool x.1.gone, .int .i64 x.1.size, .int .i64 x.1.len, .slice x.2.D x.2.m x.2.k] _ HC.out Tryd.underlying27 rfl HI.out ?_)
          | fail)
        refine (light_v x.1 x.2 most wr).mono ?_
        rintro e w2 ⟨rfl, b2⟩
        have B2 := Lib.hid (HB.out.trans (b2.mono HB.out.size))
        clear b2
        cases hL : lightX most (x.1, x.2)
        · have HF := Lib.hid (show lightsX most n l = false by unfold lightsX; rw [all_not HX.out hL, Bool.and_false])
          clear hL
          go_wp2
          go_ret
          exact ⟨by rw [HF.out]; rfl, B2.out⟩
        · have HF := Lib.hid (all_step HA.out HX.out hL)
          clear hL
          go_wp2
          go_roundw
          case rel => exact ⟨k + 1, hlt, by omega, by go_num, HF.out, B2.out⟩
          case measure => simp [intOf]; omega
      · have d2 : decide ((k : Int) ≤ (n : Int)) = false := decide_eq_false (by omega)
        have d2n : decide (k ≤ n) = false := decide_eq_false (by omega)
        have d3 : decide ((len : Int) ≤ (n : Int)) = false := decide_eq_false (by omega)
        have d3n : decide (len ≤ n) = false := decide_eq_false (by omega)
        have HF := Lib.hid (show lightsX most n l = false by unfold lightsX; rw [decide_eq_false (by omega), Bool.false_and])
        have HB := Lib.hid hb
        clear hb hle
        go_wp2
        go_ret
        exact ⟨by rw [HF.out]; first | rfl | simp [d3], HB.out⟩
    · obtain rfl : k = len := by omega
      have d1 : decide ((k : Int) < (k : Int)) = false := decide_eq_false (by omega)
      have d1n : decide (k < k) = false := decide_eq_false (by omega)
      have HB := Lib.hid hb
      have HL := Lib.hid (show l.all (lightX most) = true by have := HA.out; rwa [List.take_of_length_le (by omega)] at this)
      by_cases h3 : k ≤ n
      · have d3 : decide ((k : Int) ≤ (n : Int)) = true := decide_eq_true (by omega)
        have d3n : decide (k ≤ n) = true := decide_eq_true (by omega)
        have HF := Lib.hid (show lightsX most n l = true by unfold lightsX; rw [HL.out, decide_eq_true (by omega)]; rfl)
        clear hb
        go_wp2
        go_ret
        exact ⟨by rw [HF.out]; first | rfl | simp [d3], HB.out⟩
      · have d3 : decide ((k : Int) ≤ (n : Int)) = false := decide_eq_false (by omega)
        have d3n : decide (k ≤ n) = false := decide_eq_false (by omega)
        have HF := Lib.hid (show lightsX most n l = false by unfold lightsX; rw [decide_eq_false (by omega), Bool.false_and])
        clear hb
        go_wp2
        go_ret
        exact ⟨by rw [HF.out]; first | rfl | simp [d3], HB.out⟩
end Go.Proofs.YtndekohimfjdeaaDoor
