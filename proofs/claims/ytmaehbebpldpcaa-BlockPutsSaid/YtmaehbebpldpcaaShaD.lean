/-
  Digests: the constants.
-/
import Derived.Test.YtmaehbebpldpcaaShaC
namespace Go.Proofs.Ytmaehbebpldpcaa
open Go.RowKit
/-- A block that is an array of these numbers. -/
def Arr (k : IntKind) (t : TypeId) (w : World) (g : Nat) (l : List Nat) : Prop := w.heap[g]? = some (.cells (l.map fun x : Nat => Value.int k (x : Int)).toArray t (0, 0))
section
variable {k : IntKind} {t : TypeId} {w w' : World} {g : Nat} {l : List Nat}
theorem Arr.cell (h : Arr k t w g l) {j x : Nat} (hx : l[j]? = some x) : w.cell? ⟨g, j, none⟩ = some (.int k (x : Int)) := by
  rw [cell_of_row w g j _ t (0, 0) h]
  simp [hx]
theorem Arr.frozen (h : Arr k t w g l) (j : Nat) : w.frozen? ⟨g, j, none⟩ = false := frozen_of_row w g j _ t h
theorem Arr.keep (h : Arr k t w g l) (hk : w'.heap[g]? = w.heap[g]?) : Arr k t w' g l := hk.trans h
theorem Arr.lt (h : Arr k t w g l) : g < w.heap.size := (Array.getElem?_eq_some_iff.1 h).1
theorem Arr.alloc (h : Arr k t w g l) (o : Obj) : Arr k t (w.alloc o) g l := h.keep (Below.heap_alloc w o g h.lt)
theorem Arr.below (h : Arr k t w g l) (hb : Below w.heap.size w w') : Arr k t w' g l := h.keep (hb.block g h.lt)
theorem Arr.set_ (h : Arr k t w g l) (i : Nat) (z : Int) (x : Nat) (hz : z = (x : Int)) : Arr k t (w.setCell ⟨g, i, none⟩ (.int k z)) g (l.set i x) := by
  subst hz
  refine (heap_setCell_same w g i _ t _ h).trans ?_
  congr 2
  simp [List.map_set]
theorem Arr.setOther (h : Arr k t w g l) {p : Addr} (hp : g ≠ p.block) (u : Value) : Arr k t (w.setCell p u) g l := h.keep (Below.heap_setCell w p u g hp)
theorem Arr.new (w : World) (cs : Array Value) (l : List Nat) (h : cs = (l.map fun x : Nat => Value.int k (x : Int)).toArray) : Arr k t (w.alloc (.cells cs t)) w.heap.size l := by
  subst h; exact heap_alloc_new w _
end
theorem dec_lt {a b : Nat} (h : a < b) : decide (a < b) = true := by simpa using h
theorem dec_nlt {a b : Nat} (h : ¬ a < b) : decide (a < b) = false := by simpa using h
theorem beq_ne {a b : Nat} (h : a ≠ b) : ((a : Int) == (b : Int)) = false := by rw [beq_eq_false_iff_ne]; omega
theorem beq_ne0 {a : Nat} (h : a ≠ 0) : ((a : Int) == 0) = false := by rw [beq_eq_false_iff_ne]; omega
theorem sqOk_of {p x h l : Nat} (hh : x*x/18446744073709551616 = h) (hl : x*x%18446744073709551616 = l) : sqOk p x = (decide (h < p) || (h == p && l == 0)) := by rw [sqOk, hh, hl]
theorem cubeOk_of {p x h l c lo hi P : Nat} (hh : x*x/18446744073709551616 = h) (hl : x*x%18446744073709551616 = l) (hc : l*x/18446744073709551616 = c) (hlo : l*x%18446744073709551616 = lo) (hhi : h*x+c = hi) (hP : p*4294967296 = P) :
    cubeOk p x = (decide (hi < P) || (hi == P && lo == 0)) := by rw [cubeOk, cubeHi, hh, hl, hc, hlo, hhi, hP]
set_option maxHeartbeats 1000000 in
theorem beg1_v (p x : Nat) (a : Addr) (w : World) (hc : w.cell? a = some (.int .u64 (p : Int))) (hp : p < 18446744073709551616) (hx : x < 68719476736) :
    Calls Try.prog 62 #[.int .u64 (x : Int), .pointer (some a)] w fun e w' => e = .returned (.bool (sqOk p x)) ∧ w = w' := by
  obtain ⟨h, hh⟩ : ∃ h, x*x/18446744073709551616 = h := ⟨_, rfl⟩
  obtain ⟨l, hl⟩ : ∃ l, x*x%18446744073709551616 = l := ⟨_, rfl⟩
  have M := mul64_v x x w (by omega) (by omega)
  have HS := Lib.hid (sqOk_of (p := p) hh hl)
  rw [hh, hl] at M
  have HM := Lib.hid M
  have b1 : l < 18446744073709551616 := by omega
  have b2 : h < 18446744073709551616 := by
    have : x * x ≤ 68719476736 * 68719476736 := Nat.mul_le_mul (by omega) (by omega)
    omega
  clear hh hl M
  rcases Nat.lt_trichotomy h p with h1 | h1 | h1
  · have d1 := dec_lt h1
    have HR := Lib.hid (show sqOk p x = true by rw [HS.out, d1]; rfl)
    rw [HR.out]
    go_enter Try.func62, Try.ntmps62
    go_wp2_with (go_at_call 61; refine HM.out.mono ?_; rintro e w' ⟨rfl, rfl⟩)
    go_ret
    exact ⟨rfl, rfl⟩
  · subst h1
    by_cases h0 : l = 0
    · subst h0
      have d1 := dec_nlt (Nat.lt_irrefl h)
      have HR := Lib.hid (show sqOk h x = true by rw [HS.out, d1]; simp)
      rw [HR.out]
      go_enter Try.func62, Try.ntmps62
      go_wp2_with (go_at_call 61; refine HM.out.mono ?_; rintro e w' ⟨rfl, rfl⟩)
      go_ret
      exact ⟨rfl, rfl⟩
    · have d1 := dec_nlt (Nat.lt_irrefl h)
      have d2 := beq_ne0 h0
      have HR := Lib.hid (show sqOk h x = false by rw [HS.out, d1]; simp [h0])
      rw [HR.out]
      go_enter Try.func62, Try.ntmps62
      go_wp2_with (go_at_call 61; refine HM.out.mono ?_; rintro e w' ⟨rfl, rfl⟩)
      go_ret
      exact ⟨rfl, rfl⟩
  · have d1 := dec_nlt (show ¬ h < p by omega)
    have d2 := beq_ne (show h ≠ p by omega)
    have HR := Lib.hid (show sqOk p x = false by rw [HS.out, d1]; simp; omega)
    rw [HR.out]
    go_enter Try.func62, Try.ntmps62
    go_wp2_with (go_at_call 61; refine HM.out.mono ?_; rintro e w' ⟨rfl, rfl⟩)
    go_ret
    exact ⟨rfl, rfl⟩
set_option maxHeartbeats 2000000 in
theorem con1_v (p x : Nat) (a : Addr) (w : World) (hc : w.cell? a = some (.int .u64 (p : Int))) (hp : p < 4294967296) (hx : x < 68719476736) :
    Calls Try.prog 60 #[.int .u64 (x : Int), .pointer (some a)] w fun e w' => e = .returned (.bool (cubeOk p x)) ∧ w = w' := by
  obtain ⟨h, hh⟩ : ∃ h, x*x/18446744073709551616 = h := ⟨_, rfl⟩
  obtain ⟨l, hl⟩ : ∃ l, x*x%18446744073709551616 = l := ⟨_, rfl⟩
  have b1 : l < 18446744073709551616 := by omega
  have b2 : h ≤ 256 := by
    have : x * x ≤ 68719476736 * 68719476736 := Nat.mul_le_mul (by omega) (by omega)
    omega
  have M := mul64_v x x w (by omega) (by omega)
  have M2 := mul64_v l x w b1 (by omega)
  obtain ⟨c, hcc⟩ : ∃ c, l*x/18446744073709551616 = c := ⟨_, rfl⟩
  obtain ⟨lo, hlo⟩ : ∃ lo, l*x%18446744073709551616 = lo := ⟨_, rfl⟩
  obtain ⟨m, hm⟩ : ∃ m, h*x = m := ⟨_, rfl⟩
  have b3 : m ≤ 17592186044416 := by rw [← hm]; exact Nat.mul_le_mul b2 (show x ≤ 68719476736 by omega)
  have b4 : c < 18446744073709551616 := by
    have : l * x ≤ 18446744073709551616 * 68719476736 := Nat.mul_le_mul (by omega) (by omega)
    omega
  have b4' : c ≤ 68719476736 := by
    have : l * x ≤ 18446744073709551616 * 68719476736 := Nat.mul_le_mul (by omega) (by omega)
    omega
  have b5 : lo < 18446744073709551616 := by omega
  have HS := Lib.hid (cubeOk_of (p := p) hh hl hcc hlo (show h*x+c = m+c by rw [hm]) rfl)
  rw [hh, hl] at M
  rw [hcc, hlo] at M2
  have HM := Lib.hid M
  have HM2 := Lib.hid M2
  have e1 : (h : Int) * (x : Int) = (m : Int) := by rw [← hm]; exact (Int.natCast_mul h x).symm
  clear hh hl hcc hlo hm M M2 b4
  have e2 : (p : Int) * 4294967296 = ((p * 4294967296 : Nat) : Int) := by omega
  obtain ⟨P, hP⟩ : ∃ P, p * 4294967296 = P := ⟨_, rfl⟩
  rw [hP] at HS e2
  have b6 : P < 18446744073709551616 := by omega
  clear hP
  obtain ⟨hi, hhi⟩ : ∃ hi, m + c = hi := ⟨_, rfl⟩
  rw [hhi] at HS
  have e3 : (m : Int) + (c : Int) = (hi : Int) := by omega
  have b7 : hi < 18446744073709551616 := by omega
  clear hhi
  rcases Nat.lt_trichotomy hi P with h1 | h1 | h1
  · have d1 := dec_lt h1
    have HR := Lib.hid (show cubeOk p x = true by rw [HS.out, d1]; rfl)
    rw [HR.out]
    go_enter Try.func60, Try.ntmps60
    go_wp2_with fail
    refine HM.out.mono ?_
    rintro e w' ⟨rfl, rfl⟩
    go_wp2_with fail
    refine HM2.out.mono ?_
    rintro e w' ⟨rfl, rfl⟩
    go_wp2
    go_ret
    exact ⟨rfl, rfl⟩
  · subst h1
    by_cases h0 : lo = 0
    · subst h0
      have d1 := dec_nlt (Nat.lt_irrefl hi)
      have HR := Lib.hid (show cubeOk p x = true by rw [HS.out, d1]; simp)
      rw [HR.out]
      go_enter Try.func60, Try.ntmps60
      go_wp2_with fail
      refine HM.out.mono ?_
      rintro e w' ⟨rfl, rfl⟩
      go_wp2_with fail
      refine HM2.out.mono ?_
      rintro e w' ⟨rfl, rfl⟩
      go_wp2
      go_ret
      exact ⟨rfl, rfl⟩
    · have d1 := dec_nlt (Nat.lt_irrefl hi)
      have d2 := beq_ne0 h0
      have HR := Lib.hid (show cubeOk p x = false by rw [HS.out, d1]; simp [h0])
      rw [HR.out]
      go_enter Try.func60, Try.ntmps60
      go_wp2_with fail
      refine HM.out.mono ?_
      rintro e w' ⟨rfl, rfl⟩
      go_wp2_with fail
      refine HM2.out.mono ?_
      rintro e w' ⟨rfl, rfl⟩
      go_wp2
      go_ret
      exact ⟨rfl, rfl⟩
  · have d1 := dec_nlt (show ¬ hi < P by omega)
    have d2 := beq_ne (show hi ≠ P by omega)
    have HR := Lib.hid (show cubeOk p x = false by rw [HS.out, d1]; simp; omega)
    rw [HR.out]
    go_enter Try.func60, Try.ntmps60
    go_wp2_with fail
    refine HM.out.mono ?_
    rintro e w' ⟨rfl, rfl⟩
    go_wp2_with fail
    refine HM2.out.mono ?_
    rintro e w' ⟨rfl, rfl⟩
    go_wp2
    go_ret
    exact ⟨rfl, rfl⟩
end Go.Proofs.Ytmaehbebpldpcaa
