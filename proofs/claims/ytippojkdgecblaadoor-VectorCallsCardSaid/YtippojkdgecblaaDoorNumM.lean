/-
  The bytes of a number, in plain Lean.
-/
import Derived.Test.YtippojkdgecblaaDoorBase
namespace Go.Proofs.YtippojkdgecblaaDoor
/-- The groups above the last one. -/
def hi : Nat → Nat → List UInt8
  | 0, _ => []
  | f + 1, x => if x = 0 then [] else hi f (x / 128) ++ [UInt8.ofNat (x % 128 + 128)]
def num (x : Nat) : List UInt8 := hi 9 (x / 128) ++ [UInt8.ofNat (x % 128)]
/-- All groups, the lowest first, each marked. -/
def gs : Nat → Nat → List UInt8
  | 0, _ => []
  | f + 1, x => UInt8.ofNat (x % 128 + 128) :: (if x / 128 = 0 then [] else gs f (x / 128))
theorem gs_succ (f x : Nat) : gs (f + 1) x = UInt8.ofNat (x % 128 + 128) :: (if x / 128 = 0 then [] else gs f (x / 128)) := rfl
theorem hi_succ (f x : Nat) : hi (f + 1) x = if x = 0 then [] else hi f (x / 128) ++ [UInt8.ofNat (x % 128 + 128)] := rfl
theorem hi_zero (f : Nat) : hi f 0 = [] := by cases f <;> rfl
theorem hi_rev : ∀ (f x : Nat), x ≠ 0 → (hi f x).reverse = gs f x := by
  intro f
  induction f with
  | zero => intro x _; rfl
  | succ f ih =>
    intro x hx
    rw [hi_succ, gs_succ, if_neg hx, List.reverse_append]
    show _ :: _ = _
    congr 1
    by_cases h : x / 128 = 0
    · rw [if_pos h, h, hi_zero]; rfl
    · rw [if_neg h]; exact ih _ h
theorem gs_num (x : Nat) : ((UInt8.ofNat (x % 128)) :: (gs 10 x).drop 1).reverse = num x := by
  rw [gs_succ, List.drop_succ_cons, List.drop_zero, List.reverse_cons, num]
  congr 1
  by_cases h : x / 128 = 0
  · rw [if_pos h, h, hi_zero]; rfl
  · rw [if_neg h, ← hi_rev 9 _ h, List.reverse_reverse]
theorem gs_step (f x : Nat) (h : x / 128 ≠ 0) : gs (f + 1) x = [UInt8.ofNat (x % 128 + 128)] ++ gs f (x / 128) := by rw [gs_succ, if_neg h]; rfl
theorem gs_last (f x : Nat) (h : x / 128 = 0) : gs (f + 1) x = [UInt8.ofNat (x % 128 + 128)] := by rw [gs_succ, if_pos h]
theorem hi_step (f x : Nat) (h : x ≠ 0) : hi (f + 1) x = hi f (x / 128) ++ [UInt8.ofNat (x % 128 + 128)] := by rw [hi_succ, if_neg h]
theorem hi_len : ∀ (f x : Nat), (hi f x).length ≤ f := by
  intro f
  induction f with
  | zero => intro x; exact Nat.le_refl _
  | succ f ih => intro x; rw [hi_succ]; split <;> simp; exact ih _
theorem num_len (x : Nat) : (num x).length ≤ 10 := by have := hi_len 9 (x / 128); rw [num, List.length_append, List.length_singleton]; omega
theorem gs_len : ∀ (f x : Nat), (gs f x).length ≤ f := by
  intro f
  induction f with
  | zero => intro x; exact Nat.le_refl _
  | succ f ih =>
    intro x
    rw [gs_succ]
    split
    · simp
    · simpa using ih _
theorem byte_or (x : Nat) : bits .or .u8 (((x % 128 : Nat) : Int)) 128 = (((UInt8.ofNat (x % 128 + 128)).toNat : Nat) : Int) := by
  have h : x % 128 < 128 := Nat.mod_lt _ (by omega)
  rw [show (128 : Int) = ((128 : Nat) : Int) from rfl, u8_or_nat _ _ (by omega) (by omega), Nat.or_comm, nat_join 7 128 _ (by decide) (by omega)]
  rw [UInt8.toNat_ofNat']
  congr 1
  omega
theorem grp_byte (xk : Nat) (h : xk < 18446744073709551616) : bits .or .u8 (bits .and .u64 (xk : Int) 127 % 256) 128 = (((UInt8.ofNat (xk % 128 + 128)).toNat : Nat) : Int) := by
  rw [show (127 : Int) = ((127 : Nat) : Int) from rfl, u64_and_nat xk 127 h (by decide), nat_mask7, ← byte_or]
  congr 1
  omega
theorem low_byte (x : Nat) : bits .and .u8 (((x : Int) % 128 + 128) % 256) 127 = (((UInt8.ofNat (x % 128)).toNat : Nat) : Int) := by
  have e : ((x : Int) % 128 + 128) % 256 = (((x % 128 + 128) % 256 : Nat) : Int) := by omega
  rw [e, show (127 : Int) = ((127 : Nat) : Int) from rfl, u8_and_nat _ _ (by omega) (by decide), nat_mask7, UInt8.toNat_ofNat']
  congr 1
  omega
theorem gs_set (x : Nat) : ((gs 10 x).set 0 (UInt8.ofNat (x % 128))).reverse = num x := by
  rw [← gs_num, gs_succ]
  rfl
end Go.Proofs.YtippojkdgecblaaDoor
