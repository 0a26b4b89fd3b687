/-
  Matrices: the parts of a folder, in plain Lean, and the roots.
-/
import Derived.Test.YtikegnnlmfidfaaMatL
import Derived.Test.YtikegnnlmfidfaaMapIs
namespace Go.Proofs.Ytikegnnlmfidfaa
open Go.RowKit
/-- What one is together with, in the end. -/
def rootF (us : List Nat) : Nat → Nat → Nat
  | 0, n => n
  | k + 1, n => if us.getD n n < n then rootF us k (us.getD n n) else n
theorem rootF_le (us : List Nat) : ∀ (k n : Nat), rootF us k n ≤ n
  | 0, n => Nat.le_refl _
  | k + 1, n => by
    unfold rootF
    split
    · rename_i h
      exact Nat.le_trans (rootF_le us k _) (Nat.le_of_lt h)
    · exact Nat.le_refl _
theorem rootF_fuel (us : List Nat) : ∀ (k n : Nat), n ≤ k → rootF us k n = rootF us n n
  | 0, n, h => by obtain rfl : n = 0 := by omega
                  rfl
  | k + 1, 0, _ => by unfold rootF; rw [if_neg (Nat.not_lt_zero _)]
  | k + 1, n + 1, h => by
    unfold rootF
    split
    · rename_i h1
      rw [rootF_fuel us k _ (by omega), rootF_fuel us n _ (by omega)]
    · rfl
def rootU (us : List Nat) (n : Nat) : Nat := rootF us n n
theorem rootU_le (us : List Nat) (n : Nat) : rootU us n ≤ n := rootF_le us n n
theorem rootU_self {us : List Nat} {n : Nat} (h : us[n]? = some n) : rootU us n = n := by
  unfold rootU
  cases n with
  | zero => rfl
  | succ n => unfold rootF; rw [if_neg (by rw [List.getD_eq_getElem?_getD, h]; simp)]
theorem rootU_step {us : List Nat} {n x : Nat} (h : us[n]? = some x) (hx : x ≤ n) : rootU us x = rootU us n := by
  rcases Nat.lt_or_ge x n with hlt | hge
  · unfold rootU
    cases n with
    | zero => omega
    | succ n =>
      have e : us.getD (n + 1) (n + 1) = x := by rw [List.getD_eq_getElem?_getD, h]; rfl
      conv => rhs; unfold rootF
      rw [e, if_pos hlt, rootF_fuel us n x (by omega)]
  · obtain rfl : x = n := by omega
    rfl
/-- A block that is an array of these values. -/
def VArr (t : TypeId) (w : World) (g : Nat) (vs : List Value) : Prop := w.heap[g]? = some (.cells vs.toArray t (0, 0))
section
variable {t : TypeId} {w w' : World} {g : Nat} {vs : List Value}
theorem VArr.cell (h : VArr t w g vs) {j : Nat} {x : Value} (hx : vs[j]? = some x) : w.cell? ⟨g, j, none⟩ = some x := by
  rw [cell_of_row w g j _ t (0, 0) h]
  simp [hx]
theorem VArr.frozen (h : VArr t w g vs) (j : Nat) : w.frozen? ⟨g, j, none⟩ = false := frozen_of_row w g j _ t h
theorem VArr.keep (h : VArr t w g vs) (hk : w'.heap[g]? = w.heap[g]?) : VArr t w' g vs := hk.trans h
theorem VArr.lt (h : VArr t w g vs) : g < w.heap.size := (Array.getElem?_eq_some_iff.1 h).1
theorem VArr.alloc (h : VArr t w g vs) (o : Obj) : VArr t (w.alloc o) g vs := h.keep (Below.heap_alloc w o g h.lt)
theorem VArr.below (h : VArr t w g vs) (hb : Below w.heap.size w w') : VArr t w' g vs := h.keep (hb.block g h.lt)
theorem VArr.set_ (h : VArr t w g vs) (i : Nat) (x : Value) : VArr t (w.setCell ⟨g, i, none⟩ x) g (vs.set i x) := by
  refine (heap_setCell_same w g i _ t _ h).trans ?_
  congr 2
  simp
theorem VArr.setOther (h : VArr t w g vs) {p : Addr} (hp : g ≠ p.block) (u : Value) : VArr t (w.setCell p u) g vs := h.keep (Below.heap_setCell w p u g hp)
end
abbrev UArr (w : World) (g : Nat) (us : List Nat) : Prop := VArr 61 w g (us.map fun x : Nat => Value.int .i64 (x : Int))
theorem UArr.at_ {w : World} {g : Nat} {us : List Nat} (h : UArr w g us) {k x : Nat} (hx : us[k]? = some x) : w.cell? ⟨g, k, none⟩ = some (.int .i64 (x : Int)) := VArr.cell h (by rw [List.getElem?_map, hx]; rfl)
set_option maxRecDepth 100000 in
set_option maxHeartbeats 4000000 in
theorem root_v (us : List Nat) (g : Nat) (V : World) (hl : us.length = 17) (hb : UArr V g us) (hle : ∀ (k x : Nat), us[k]? = some x → x ≤ k) (m : Nat) (hm : m < 17) :
    Calls Try.prog 37 #[.pointer (some ⟨g, 0, none⟩), .int .i64 (m : Int)] V fun e w' => e = .returned (.int .i64 (rootU us m : Int)) ∧ V = w' := by
  have HU := Lib.hid hb
  have HLE := Lib.hid hle
  clear hb hle
  go_enter Try.func37, Try.ntmps37
  go_wp2_with fail
  go_loopw [1] (fun v wr => ∃ x : Nat, x < 17 ∧ v = .int .i64 (x : Int) ∧ rootU us x = rootU us m ∧ V = wr) (fun v _ => (intOf v).toNat)
  case atStart => exact ⟨m, hm, rfl, rfl, rfl⟩
  case round =>
    obtain ⟨x, hx, rfl, he, rfl⟩ := hrel
    have HE := Lib.hid he
    clear he
    obtain ⟨y, hy⟩ : ∃ y, us[x]? = some y := ⟨_, List.getElem?_eq_getElem (by omega)⟩
    have c0 := UArr.at_ HU.out hy
    have hyx := HLE.out x y hy
    have HY := Lib.hid hy
    have k0 : (0 : Int) ≤ (x : Int) := by omega
    have k1 : (x : Int) < 17 := by omega
    clear hy
    by_cases h : y = x
    · have d1 : ((y : Int) == (x : Int)) = true := beq_iff_eq.2 (by omega)
      have HR := Lib.hid (show rootU us m = x by rw [← HE.out, rootU_self (by rw [HY.out, h])])
      subst h
      go_wp2_with fail
      go_ret
      exact ⟨by rw [HR.out]; rfl, by trivial⟩
    · have d1 : ((y : Int) == (x : Int)) = false := beq_eq_false_iff_ne.2 (by omega)
      have HN := Lib.hid (show rootU us y = rootU us m by rw [rootU_step HY.out hyx, HE.out])
      go_wp2_with fail
      go_roundw
      case rel => exact ⟨y, by omega, rfl, HN.out, by trivial⟩
      case measure => simp [intOf]; omega
end Go.Proofs.Ytikegnnlmfidfaa
