/-
  Vectors, the reference: digits.
-/
import Derived.Test.YtippojkdgecblaaDoorRvG
import Derived.Test.YtippojkdgecblaaDoorVecNa
namespace Go.Proofs.YtippojkdgecblaaDoor
open Go.RowKit
theorem dec_small {n : Nat} (h : n < 10) : dec n = [UInt8.ofNat (48 + n)] := by
  unfold dec
  rw [Lib.decDigits, dif_pos h]
theorem dec_big {n : Nat} (h : ¬ n < 10) : dec n = dec (n / 10) ++ [UInt8.ofNat (48 + n % 10)] := by
  unfold dec
  conv => lhs; rw [Lib.decDigits, dif_neg h]
theorem BReads.litsV (w : World) (l : List UInt8) (cs : Array Value) (fr : Nat × Nat) (h : cs = (l.map u8v).toArray) : BReads (w.alloc (.cells cs 5 fr)) (w.heap.size + 1) (some ⟨w.heap.size, 0, none⟩) l.length l := by
  subst h
  refine ⟨by simp, fun _ => ⟨_, rfl, Nat.lt_succ_self _, fun j u hu => ?_⟩⟩
  have hp : ∀ j, (⟨w.heap.size, 0, none⟩ : Addr).add j = ⟨w.heap.size, j, none⟩ := fun j => by unfold Addr.add; split <;> simp_all
  rw [hp, World.cell?_alloc_mark]
  simpa using hu
theorem convV_new (w : World) (c : UInt8) : (convert 34 9 (.slice (some ⟨w.heap.size, 0, none⟩) 1 1)).run Tryd.prog (w.alloc (.cells #[.int .u8 (c.toNat : Int)] 5)) = .ok (.string (st [c])) (w.alloc (.cells #[.int .u8 (c.toNat : Int)] 5)) :=
  run_str (BReads.litsV w [c] _ _ rfl)
theorem convV_kept {w V : World} {c : UInt8} (h : Below (w.heap.size + 1) (w.alloc (.cells #[.int .u8 (c.toNat : Int)] 5)) V) : (convert 34 9 (.slice (some ⟨w.heap.size, 0, none⟩) 1 1)).run Tryd.prog V = .ok (.string (st [c])) V :=
  run_str (Reads.below (BReads.litsV w [c] _ _ rfl) h)
theorem convV_kept2 {w V : World} {c : UInt8} (h : Below (w.alloc (.cells #[.int .u8 (c.toNat : Int)] 5)).drew.heap.size (w.alloc (.cells #[.int .u8 (c.toNat : Int)] 5)).drew V) : (convert 34 9 (.slice (some ⟨w.heap.size, 0, none⟩) 1 1)).run Tryd.prog V = .ok (.string (st [c])) V :=
  convV_kept (((Below.refl (w.heap.size + 1) _).drew).trans (h.mono (by show w.heap.size + 1 ≤ (w.alloc (.cells #[.int .u8 (c.toNat : Int)] 5)).heap.size; simp)))
theorem belowV_fa {w V : World} (o : Obj) (b : Below w.drew.heap.size w.drew V) : Below w.heap.size w (V.alloc o) :=
  ((((Below.refl w.heap.size w).drew).trans b)).alloc b.size o
theorem belowV_fb {w V : World} {o : Obj} (b : Below (w.alloc o).drew.heap.size (w.alloc o).drew V) : Below w.heap.size w V :=
  ((((Below.refl w.heap.size w).alloc (Nat.le_refl _) o).drew)).trans (b.mono (by show w.heap.size ≤ (w.alloc o).heap.size; simp))
theorem convV_kept3 {w V : World} {c : UInt8} (h : Below (w.drew.alloc (.cells #[.int .u8 (c.toNat : Int)] 5)).heap.size (w.drew.alloc (.cells #[.int .u8 (c.toNat : Int)] 5)) V) : (convert 34 9 (.slice (some ⟨w.heap.size, 0, none⟩) 1 1)).run Tryd.prog V = .ok (.string (st [c])) V :=
  convV_kept (w := w.drew) (h.mono (by simp))
set_option maxRecDepth 100000 in
set_option maxHeartbeats 2000000 in
theorem rdig_v (n : Nat) : ∀ (w : World), n < 18446744073709551616 → Calls Tryd.prog 48 #[.int .u64 (n : Int)] w fun e w' => e = .returned (.string (st (dec n))) ∧ Below w.heap.size w w' := by
  induction n using Nat.strongRecOn with
  | _ n ih =>
  intro w hn
  by_cases h : n < 10
  · have HD := Lib.hid (dec_small h)
    obtain ⟨c, hc⟩ : ∃ c : UInt8, UInt8.ofNat (48 + n) = c := ⟨_, rfl⟩
    have hcn : ((48 + n : Nat) : Int) = (c.toNat : Int) := by rw [← hc, UInt8.toNat_ofNat']; omega
    rw [hc] at HD
    have e0 : (48 : Int) + (n : Int) = (c.toNat : Int) := by omega
    have e1 : IntKind.u8.wrap (c.toNat : Int) = (c.toNat : Int) := by have := c.toNat_lt; exact IntWalk.u8_in _ ⟨by omega, by omega⟩
    have e3 : IntKind.u64.wrap (c.toNat : Int) = (c.toNat : Int) := by have := c.toNat_lt; rw [IntKind.wrap_u64]; omega
    have cv := convV_new w c
    have d1 : decide ((n : Int) < 10) = true := decide_eq_true (by omega)
    clear h hc hcn ih
    go_enter Tryd.func48, Tryd.ntmps48
    go_wp2_with fail
    go_ret
    exact ⟨by rw [HD.out]; rfl, (Below.refl _ _).alloc (Nat.le_refl _) _⟩
  · have IH := Lib.hid (fun w => ih (n / 10) (by omega) w (by omega))
    have HD := Lib.hid (dec_big h)
    obtain ⟨c, hc⟩ : ∃ c : UInt8, UInt8.ofNat (48 + n % 10) = c := ⟨_, rfl⟩
    have hcn : ((48 + n % 10 : Nat) : Int) = (c.toNat : Int) := by rw [← hc, UInt8.toNat_ofNat']; omega
    rw [hc] at HD
    have hlen := dec_lenU (n := n / 10) (k := 20) (by decide) (Nat.lt_of_lt_of_le (show n / 10 < 18446744073709551616 by omega) (by decide))
    obtain ⟨m, hm⟩ : ∃ m, n / 10 = m := ⟨_, rfl⟩
    rw [hm] at IH HD hlen
    obtain ⟨y, hy⟩ : ∃ y, dec m = y := ⟨_, rfl⟩
    rw [hy] at IH HD hlen
    have q0 : (n : Int) / 10 = (m : Int) := by omega
    have q1 : (n : Int).tdiv 10 = (m : Int) := by rw [Int.tdiv_eq_ediv_of_nonneg (by omega)]; omega
    have q2 : (n : Int).tmod 10 = ((n % 10 : Nat) : Int) := by rw [Int.tmod_eq_emod_of_nonneg (by omega)]; omega
    have e0 : (48 : Int) + ((n % 10 : Nat) : Int) = (c.toNat : Int) := by omega
    have e1 : IntKind.u8.wrap (c.toNat : Int) = (c.toNat : Int) := by have := c.toNat_lt; exact IntWalk.u8_in _ ⟨by omega, by omega⟩
    have e2 : st y ++ st [c] = st (y ++ [c]) := st_app y [c]
    have z1 : (st y).size ≤ 1000 := by rw [st_size]; omega
    have z2 : (st [c]).size ≤ 1000 := by rw [st_size]; simp
    have e3 : IntKind.u64.wrap (c.toNat : Int) = (c.toNat : Int) := by have := c.toNat_lt; rw [IntKind.wrap_u64]; omega
    have cv := convV_new w c
    have cw := convV_kept2 (w := w) (c := c) (Below.refl _ _)
    have d1 : decide ((n : Int) < 10) = false := decide_eq_false (by omega)
    have w1 : IntKind.u64.wrap (m : Int) = (m : Int) := by rw [IntKind.wrap_u64]; omega
    have w2 : IntKind.u64.wrap (48 + (n : Int) % 10) = (c.toNat : Int) := by rw [IntKind.wrap_u64]; omega
    have w3 : 48 + (n : Int) % 10 = (c.toNat : Int) := by omega
    clear h hc hcn hm hy ih
    go_enter Tryd.func48, Tryd.ntmps48
    go_upto_region 3 with fail
    go_region_with (first
      | (go_at_call 48; refine (IH.out _).mono ?_; rintro e V ⟨rfl, b⟩; have cv3 := convV_new V c; (try have cv2 := convV_kept2 (w := w) (c := c) b); (try have cv4 := convV_kept3 (w := w) (c := c) b)))
    all_goals (go_wp2_with fail)
    all_goals (go_ret)
    all_goals (refine ⟨by rw [HD.out]; rfl, ?_⟩)
    all_goals (first | exact belowV_fb b | exact belowV_fa _ b)
end Go.Proofs.YtippojkdgecblaaDoor
