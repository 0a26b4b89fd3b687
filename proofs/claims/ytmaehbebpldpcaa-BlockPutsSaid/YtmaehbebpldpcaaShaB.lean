/-
  Digests: primes, roots, the constants.
-/
import Derived.Test.YtmaehbebpldpcaaShaA
namespace Go.Proofs.Ytmaehbebpldpcaa
open Go.RowKit
/-- An owned row of numbers. -/
def NOwn (k : IntKind) (e : TypeId) (w : World) (base : Nat) (A : Option Addr) (n c : Nat) (l : List Nat) : Prop := w.ownsRow base e 1 (.slice A n c) n (l.map fun x : Nat => Value.int k (x : Int)) ∧ n ≤ c
section
variable {k : IntKind} {e : TypeId} {w w' : World} {base n c : Nat} {A : Option Addr} {l : List Nat}
theorem NOwn.reads (h : NOwn k e w base A n c l) : NReads k w w.heap.size A n l := Reads.of_own h.1
theorem NOwn.nil_ (w : World) (base : Nat) : NOwn k e w base none 0 0 [] := ⟨World.ownsRow_nil w base _ 1, Nat.le_refl _⟩
theorem NOwn.base_le (h : NOwn k e w base A n c l) : ∀ j, (Value.slice A n c).ownBlock = some j → base ≤ j ∧ j < w.heap.size := h.1.lt
theorem NOwn.alloc (h : NOwn k e w base A n c l) (o : Obj) : NOwn k e (w.alloc o) base A n c l := ⟨h.1.alloc o, h.2⟩
/-- It stands while its own block does. -/
theorem NOwn.keep (h : NOwn k e w base A n c l) (hk : ∀ j, (Value.slice A n c).ownBlock = some j → w'.heap[j]? = w.heap[j]?) : NOwn k e w' base A n c l := by
  refine ⟨⟨h.1.1, ?_⟩, h.2⟩
  rcases h.1.2 with hn | ⟨g, cap, cur, ev, hg, hh, rest⟩
  · exact .inl hn
  · exact .inr ⟨g, cap, cur, ev, hg, (hk g (by rw [ev]; rfl)).trans hh, rest⟩
theorem NOwn.setCell (h : NOwn k e w base A n c l) {p : Addr} (hp : ∀ j, (Value.slice A n c).ownBlock = some j → j ≠ p.block) (u : Value) : NOwn k e (w.setCell p u) base A n c l :=
  h.keep fun j hj => Below.heap_setCell w p u j (hp j hj)
end
theorem NReads.one (k : IntKind) (e : TypeId) (w : World) (z : Int) (x : Nat) (hz : z = (x : Int)) : NReads k (w.alloc (.cells #[.int k z] e)) (w.heap.size + 1) (some ⟨w.heap.size, 0, none⟩) 1 [x] := by
  subst hz
  refine ⟨rfl, fun _ => ⟨_, rfl, Nat.lt_succ_self _, fun j u hu => ?_⟩⟩
  have hj : j = 0 := by
    rcases j with _ | j
    · rfl
    · simp at hu
  subst hj
  simp at hu
  subst hu
  rw [add_zero, World.cell?_alloc_at _ _ _ _ rfl]
  rfl
theorem info_u64 : (Try.prog.info? 93).map (fun i => (i.zero, i.size, i.bytes)) = some (some (.int .u64 0), 1, 8) := by kernel_rfl
section
variable {ops : Array Oper} {rest : List Oper} {o : Oper} {a : Act} {Q : Exit → Act → World → Prop} {w : World}
theorem wpList_app64 (hgd : o.guard = none) (s x : Operand)
    (ho : o.op = .call { callee := .builtin .append, args := #[s, x], argTypes := #[91, 91] })
    (base : Nat) (A : Option Addr) (n c : Nat) (xs : List Nat) (hs : a.eval s = .slice A n c) (hown : NOwn .u64 93 w base A n c xs)
    (B : Nat) (D : Option Addr) (m d : Nat) (l : List Nat) (hx : a.eval x = .slice D m d) (hr : NReads .u64 w B D m l)
    (N : Nat) (L : List Nat) (hN : n + m = N) (hL : xs ++ l = L) (hlen : N ≤ 1000000) (hbase : base ≤ w.heap.size)
    (h : ∀ A' c' w', NOwn .u64 93 w' base A' N c' L → w.grownBy w' (Value.slice A n c).ownBlock → ((Value.slice A' N c').ownBlock = (Value.slice A n c).ownBlock ∨ (Value.slice A' N c').ownBlock = some w.heap.size) →
      wpList Try.prog ops Q rest (a.put o.dst (.slice A' N c')) w') : wpList Try.prog ops Q (o :: rest) a w := by
  subst hN hL
  obtain ⟨i0, hi, hz0, hz1, hz2⟩ := info_parts info_u64
  refine wpList_append_any w hgd s x 91 ho base 93 i0 (.int .u64 0) 1 8 Try.underlying91 hi hz0 hz1 hz2 rfl (by decide) (.slice A n c) n _ hs hown.1 B D m d _ hx hr
    (fun u hu => by obtain ⟨y, _, rfl⟩ := List.mem_map.1 hu; rfl) (by simp only [maxLen]; omega) (by omega) hbase ?_
  intro v' w' hown' hg hat
  obtain ⟨A', c', rfl, hc⟩ := own_shape hown'
  exact h A' c' w' ⟨by rw [List.map_append]; exact hown', hc⟩ hg hat
end
set_option maxHeartbeats 1000000 in
theorem mul64_v (x y : Nat) (w : World) (hx : x < 18446744073709551616) (hy : y < 18446744073709551616) :
    Calls Try.prog 61 #[.int .u64 (x : Int), .int .u64 (y : Int)] w fun e w' => e = .returned (.tuple #[.int .u64 ((x * y / 18446744073709551616 : Nat) : Int), .int .u64 ((x * y % 18446744073709551616 : Nat) : Int)]) ∧ w = w' := by
  obtain ⟨b1, b2, b3, hhi⟩ := Lib.mul64_hi x y hx hy
  have b4 := Lib.half_mul_le (a := x / 4294967296) (b := y / 4294967296) (by omega) (by omega)
  have b5 := Lib.half_mul_le (a := x / 4294967296) (b := y % 4294967296) (by omega) (by omega)
  have b6 := Lib.half_mul_le (a := x % 4294967296) (b := y / 4294967296) (by omega) (by omega)
  have g1 : x / 4294967296 * (y / 4294967296) < 18446744073709551616 := by omega
  have g2 : x / 4294967296 * (y % 4294967296) < 18446744073709551616 := by omega
  have g3 : x % 4294967296 * (y / 4294967296) < 18446744073709551616 := by omega
  have g4 : x / 4294967296 * (y / 4294967296) + (x / 4294967296 * (y % 4294967296) + x % 4294967296 * (y % 4294967296) / 4294967296) / 4294967296 < 18446744073709551616 := by omega
  have g5 : x / 4294967296 * (y / 4294967296) + (x / 4294967296 * (y % 4294967296) + x % 4294967296 * (y % 4294967296) / 4294967296) / 4294967296 + ((x / 4294967296 * (y % 4294967296) + x % 4294967296 * (y % 4294967296) / 4294967296) % 4294967296 + x % 4294967296 * (y / 4294967296)) / 4294967296 < 18446744073709551616 := by omega
  go_enter Try.func61, Try.ntmps61
  go_wp2
  simp only [Mul64.maskN x hx, Mul64.maskN y hy, Mul64.divN, Mul64.mulN, Mul64.addN, Mul64.wrapN _ b1, Mul64.wrapN _ g2, Mul64.wrapN _ b2, Mul64.maskN _ b2, Mul64.wrapN _ g3, Mul64.wrapN _ b3, Mul64.wrapN _ g1, Mul64.wrapN _ g4, Mul64.wrapN _ g5, Mul64.wrapM (x * y)]
  rw [hhi]
  go_ret2
  exact ⟨rfl, rfl⟩
set_option maxHeartbeats 400000 in
theorem pr1_v (p q : Nat) (a : Addr) (w : World) (hc : w.cell? a = some (.int .u64 (p : Int))) (hp : p < 18446744073709551616) (h0 : 0 < q) (hq : q < 18446744073709551616) :
    Calls Try.prog 68 #[.int .u64 (q : Int), .pointer (some a)] w fun e w' => e = .returned (.bool (p % q == 0)) ∧ w = w' := by
  go_enter Try.func68, Try.ntmps68
  go_wp2
  go_ret
  exact ⟨by rw [show ((p : Int) % (q : Int) == 0) = (p % q == 0) by rw [Bool.eq_iff_iff]; simp; omega]; rfl, rfl⟩
/-- A number that is not negative where b holds. -/
def HasI (b : Bool) (n : Nat) (w : World) (e : Ending) (w' : World) : Prop := w = w' ∧ ∃ i : Int, e = .returned (.int .i64 i) ∧ (0 ≤ i ↔ b = true) ∧ -1 ≤ i ∧ i ≤ n
set_option maxHeartbeats 1000000 in
theorem idx_v (p : Nat) (a : Addr) (B : Nat) (A : Option Addr) (n c : Nat) (l : List Nat) (w : World) (hr : NReads .u64 w B A n l) (hc : w.cell? a = some (.int .u64 (p : Int))) (hp : p < 18446744073709551616)
    (hl : ∀ q ∈ l, 0 < q ∧ q < 18446744073709551616) (hn : n ≤ 9223372036854775807) :
    Calls Try.prog 71 #[.slice A n c, .func (.func 68) #[] #[.pointer (some a)]] w (HasI (l.any fun q => p % q == 0) n w) := by
  go_enter Try.func71, Try.ntmps71
  go_wp2
  go_loop [8] (fun i => ∃ k : Nat, k ≤ n ∧ i = .int .i64 (k : Int) ∧ (l.take k).any (fun q => p % q == 0) = false) (fun i => n - (intOf i).toNat)
  case atStart => exact ⟨0, Nat.zero_le _, rfl, rfl⟩
  case round =>
    obtain ⟨k, hk, rfl, ha⟩ := hrel
    have HA := Lib.hid ha
    clear ha
    by_cases hlt : k < n
    · obtain ⟨ad, q, rfl, had, hcell, HX, HT, hq⟩ := NReads.at2 hr hlt
      obtain ⟨q0, q1⟩ := hl q hq
      cases hd : p % q == 0
      · have HD := Lib.hid hd
        clear hd
        go_wp2_with (go_at_call 68; refine (pr1_v p q a _ hc hp q0 q1).mono ?_; rw [HD.out]; rintro e w' ⟨rfl, rfl⟩)
        go_round
        case rel => exact ⟨k + 1, by omega, by go_num, by rw [HT.out, List.any_append, HA.out]; simp [HD.out]⟩
        case measure => simp [intOf]; omega
      · have HD := Lib.hid hd
        clear hd
        go_wp2_with (go_at_call 68; refine (pr1_v p q a _ hc hp q0 q1).mono ?_; rw [HD.out]; rintro e w' ⟨rfl, rfl⟩)
        go_ret
        have : (l.any fun q => p % q == 0) = true := List.any_eq_true.2 ⟨q, hq, HD.out⟩
        exact ⟨rfl, k, rfl, by rw [this]; simp, by omega, by omega⟩
    · obtain rfl : k = n := by omega
      have HF := Lib.hid (show l.take k = l by rw [List.take_of_length_le (by rw [NReads.len hr]; exact Nat.le_refl _)])
      go_wp2
      go_ret
      have := HA.out
      rw [HF.out] at this
      exact ⟨rfl, -1, rfl, by rw [this]; simp, by omega, by omega⟩
set_option maxHeartbeats 400000 in
theorem cont_v (p : Nat) (a : Addr) (B : Nat) (A : Option Addr) (n c : Nat) (l : List Nat) (w : World) (hr : NReads .u64 w B A n l) (hc : w.cell? a = some (.int .u64 (p : Int))) (hp : p < 18446744073709551616)
    (hl : ∀ q ∈ l, 0 < q ∧ q < 18446744073709551616) (hn : n ≤ 9223372036854775807) :
    Calls Try.prog 67 #[.slice A n c, .func (.func 68) #[] #[.pointer (some a)]] w fun e w' => e = .returned (.bool (l.any fun q => p % q == 0)) ∧ w = w' := by
  obtain ⟨b, hb⟩ : ∃ b, (l.any fun q => p % q == 0) = b := ⟨_, rfl⟩
  have H := idx_v p a B A n c l w hr hc hp hl hn
  rw [hb] at H ⊢
  have H2 := Lib.hid H
  clear H hb
  go_enter Try.func67, Try.ntmps67
  go_wp2_with (go_at_call 71; refine H2.out.mono ?_; rintro e w' ⟨rfl, i, rfl, hi, h1, h2⟩)
  go_ret
  exact ⟨rfl, rfl⟩
end Go.Proofs.Ytmaehbebpldpcaa
