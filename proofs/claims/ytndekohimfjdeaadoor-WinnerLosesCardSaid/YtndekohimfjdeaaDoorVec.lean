/-
  Vectors made: rows of counts of the call's own; 'of'.
-/
import Derived.Test.YtndekohimfjdeaaDoorCnt
namespace Go.Proofs.YtndekohimfjdeaaDoor
open Go.RowKit
theorem info_cnt : (Tryd.prog.info? 49).map (fun i => (i.zero, i.size, i.bytes)) = some (some (.agg #[.int .i64 0, .int .u64 0]), 2, 16) := by kernel_rfl
theorem oneCell_cnt : ∀ l : List (Int × Nat), ∀ u ∈ cntsC l, u.oneCell' = true
  | [], u, h => by simp [cntsC] at h
  | x :: l, u, h => by
    rw [cntsC_cons] at h
    rcases List.mem_cons.1 h with rfl | h
    · rfl
    · rcases List.mem_cons.1 h with rfl | h
      · rfl
      · exact oneCell_cnt l u h
/-- A slice of counts of the call's own. -/
def COwn (w : World) (base : Nat) (A : Option Addr) (n c : Nat) (l : List (Int × Nat)) : Prop := w.ownsRow base 49 2 (.slice A n c) n (cntsC l) ∧ n ≤ c
section
variable {w w' : World} {base n c : Nat} {A : Option Addr} {l : List (Int × Nat)}
theorem COwn.nil_ (w : World) (base : Nat) : COwn w base none 0 0 [] := ⟨World.ownsRow_nil w base _ 2, Nat.le_refl _⟩
theorem COwn.reads (h : COwn w base A n c l) : CReads w w.heap.size A n l := Reads.of_own h.1
theorem COwn.alloc (h : COwn w base A n c l) (o : Obj) : COwn (w.alloc o) base A n c l := ⟨h.1.alloc o, h.2⟩
theorem COwn.base_le (h : COwn w base A n c l) : ∀ k, (Value.slice A n c).ownBlock = some k → base ≤ k ∧ k < w.heap.size := h.1.lt
theorem COwn.below (h : COwn w base A n c l) (hb : Below w.heap.size w w') : COwn w' base A n c l := by
  refine ⟨⟨h.1.1, ?_⟩, h.2⟩
  rcases h.1.2 with hn | ⟨g, cap, cur, e, hg, hh, rest⟩
  · exact .inl hn
  · exact .inr ⟨g, cap, cur, e, hg, (hb.block g (Array.getElem?_eq_some_iff.1 hh).1).trans hh, rest⟩
theorem COwn.down {base' : Nat} (h : COwn w base A n c l) (hb : base' ≤ base) : COwn w base' A n c l := by
  refine ⟨⟨h.1.1, ?_⟩, h.2⟩
  rcases h.1.2 with hn | ⟨g, cap, cur, e, hg, rest⟩
  · exact .inl hn
  · exact .inr ⟨g, cap, cur, e, Nat.le_trans hb hg, rest⟩
end
section
variable {o : Oper} {rest : List Oper} {ops : Array Oper} {a : Act} {Q : Exit → Act → World → Prop} {w : World}
theorem wpList_capp (hgd : o.guard = none) (s x : Operand) (T : TypeId) (hT : Tryd.prog.underlying T = some (.slice 49))
    (ho : o.op = .call { callee := .builtin .append, args := #[s, x], argTypes := #[T, T] })
    (base : Nat) (A : Option Addr) (n c : Nat) (xs : List (Int × Nat)) (hs : a.eval s = .slice A n c) (hown : COwn w base A n c xs)
    (B : Nat) (D : Option Addr) (m d : Nat) (l : List (Int × Nat)) (hx : a.eval x = .slice D m d) (hr : CReads w B D m l)
    (hlen : n + m ≤ 8000000000000) (hbase : base ≤ w.heap.size)
    (h : ∀ A' c' w', COwn w' base A' (n + m) c' (xs ++ l) → w.grownBy w' (Value.slice A n c).ownBlock →
      wpList Tryd.prog ops Q rest (a.put o.dst (.slice A' (n + m) c')) w') : wpList Tryd.prog ops Q (o :: rest) a w := by
  obtain ⟨i0, hi, hz0, hz1, hz2⟩ := info_parts info_cnt
  refine wpList_append_any w hgd s x T ho base 49 i0 (.agg #[.int .i64 0, .int .u64 0]) 2 16 hT hi hz0 hz1 hz2 rfl (by decide) (.slice A n c) n (cntsC xs) hs hown.1 B D m d (cntsC l) hx hr (oneCell_cnt l)
    (by simp only [maxLen]; omega) (by omega) hbase ?_
  intro v' w' hown' hg _
  obtain ⟨A', c', rfl, hc⟩ := own_shape hown'
  exact h A' c' w' ⟨by rw [cntsC_app]; exact hown', hc⟩ hg
end
theorem below_capp {B base n c : Nat} {A : Option Addr} {xs : List (Int × Nat)} {a w w' : World} (h : Below B a w) (hg : w.grownBy w' (Value.slice A n c).ownBlock) (ho : COwn w base A n c xs) (hB : B ≤ base) (hs : B ≤ w.heap.size) : Below B a w' :=
  h.grown hg hs fun k hk => Nat.le_trans hB (ho.base_le k hk).1
theorem CReads.one (w : World) (d : Int) (x : Nat) (T : TypeId) : CReads (w.alloc (.cells #[.int .i64 d, .int .u64 (x : Int)] T)) (w.heap.size + 1) (some ⟨w.heap.size, 0, none⟩) 1 [(d, x)] := by
  refine ⟨rfl, fun _ => ⟨_, rfl, Nat.lt_succ_self _, fun j u hu => ?_⟩⟩
  rcases j with _ | _ | j
  · rw [add_zero, World.cell?_alloc_at _ _ _ _ rfl]
    exact hu
  · rw [add_pos _ _ (by omega), World.cell?_alloc_at _ _ _ _ rfl]
    exact hu
  · simp [cntsC, cntC] at hu
/-- The vector of values by device, from a device on: so many more. -/
def ofN (f : Int → Nat) : Nat → Int → List (Int × Nat)
  | 0, _ => []
  | k + 1, d => (if 0 < f d then [(d, f d)] else []) ++ ofN f k (d + 1)
def ofV (f : Int → Nat) : List (Int × Nat) := ofN f 16 1
set_option maxHeartbeats 1000000 in
theorem of_v (F : FuncId) (caps : Array Value) (f : Int → Nat) (w : World) (hcf : ∀ args W, (callFunc F args).run Tryd.prog W = .ok (.enter F args) W) (hf64 : ∀ d, f d < 18446744073709551616)
    (hf : ∀ (d : Int) (W : World), 1 ≤ d → d ≤ 16 → Below w.heap.size w W → Calls Tryd.prog F (#[.int .i64 d] ++ caps) W fun e W' => e = .returned (.int .u64 (f d : Int)) ∧ Below W.heap.size W W') :
    Calls Tryd.prog 56 #[.func (.func F) #[] caps] w fun e w' => ∃ A n c, e = .returned (.slice A n c) ∧ COwn w' w.heap.size A n c (ofV f) ∧ Below w.heap.size w w' := by
  go_enter Tryd.func56, Tryd.ntmps56
  go_wp2
  go_loopw [3, 4] (fun o i wr => ∃ (k : Nat) (A : Option Addr) (n c : Nat) (l : List (Int × Nat)), k ≤ 16 ∧ i = .int .i64 ((k : Int) + 1) ∧ o = .slice A n c ∧ n ≤ k ∧ COwn wr w.heap.size A n c l ∧ l ++ ofN f (16 - k) ((k : Int) + 1) = ofV f ∧ Below w.heap.size w wr) (fun _ i _ => 17 - (intOf i).toNat)
  case atStart => exact ⟨0, none, 0, 0, [], Nat.zero_le _, rfl, rfl, Nat.le_refl _, COwn.nil_ _ _, rfl, Below.refl _ _⟩
  case round =>
    obtain ⟨k, A, n, c, l, hk, rfl, rfl, hn, ho, hl, hb⟩ := hrel
    have HL := Lib.hid hl
    clear hl
    have HO := Lib.hid ho
    clear ho
    by_cases hlt : k < 16
    · have hw := fun args => hcf args wr
      have g0 : decide ((k : Int) + 1 ≤ 16) = true := by simp; omega
      go_wp2_with fail
      clear hw
      refine (hf ((k : Int) + 1) wr (by omega) (by omega) hb).mono ?_
      rintro e w1 ⟨rfl, hb1⟩
      have hb1' : Below w.heap.size w w1 := hb.trans (hb1.mono hb.size)
      have HO1 := Lib.hid (HO.out.below hb1)
      have hst : ofN f (16 - k) ((k : Int) + 1) = (if 0 < f ((k : Int) + 1) then [((k : Int) + 1, f ((k : Int) + 1))] else []) ++ ofN f (16 - (k + 1)) (((k + 1 : Nat) : Int) + 1) := by
        rw [show 16 - k = (16 - (k + 1)) + 1 by omega, ofN]
        congr 3
      have HS := Lib.hid hst
      have h64 := hf64 ((k : Int) + 1)
      clear hst
      by_cases hp : 0 < f ((k : Int) + 1)
      · have HF := Lib.hid (show (l ++ [((k : Int) + 1, f ((k : Int) + 1))]) ++ ofN f (16 - (k + 1)) (((k + 1 : Nat) : Int) + 1) = ofV f by rw [← HL.out, HS.out, if_pos hp, List.append_assoc])
        obtain ⟨x, hx⟩ : ∃ x, f ((k : Int) + 1) = x := ⟨_, rfl⟩
        rw [hx] at hp h64 HF ⊢
        clear HS hx
        go_wp2_with (at_builtin; refine wpList_capp rfl (.tmp 15) (.tmp 19) 82 Tryd.underlying82 rfl w.heap.size A n c l rfl (HO1.out.alloc _) (w1.heap.size + 1) (some ⟨w1.heap.size, 0, none⟩) 1 1 [((k : Int) + 1, x)] rfl (CReads.one w1 _ _ _) (by omega) (by have := hb1'.size; simp; omega) ?_; intro A2 c2 w2 ho2 hg2)
        have hb2 : Below w.heap.size w w2 := below_capp (hb1'.alloc hb1'.size _) hg2 (HO1.out.alloc _) (Nat.le_refl _) (by have := hb1'.size; simp; omega)
        have HO2 := Lib.hid ho2
        clear hg2 ho2
        go_roundw
        case rel => exact ⟨k + 1, A2, n + 1, c2, _, by omega, by go_num, rfl, by omega, HO2.out, HF.out, hb2⟩
        case measure => simp [intOf]; omega
      · have HF := Lib.hid (show l ++ ofN f (16 - (k + 1)) (((k + 1 : Nat) : Int) + 1) = ofV f by rw [← HL.out, HS.out, if_neg hp]; rfl)
        have hx : f ((k : Int) + 1) = 0 := by omega
        rw [hx]
        clear HS hx hp h64
        go_wp2
        go_roundw
        case rel => exact ⟨k + 1, A, n, c, _, by omega, by go_num, rfl, by omega, HO1.out, HF.out, hb1'⟩
        case measure => simp [intOf]; omega
    · obtain rfl : k = 16 := by omega
      have HF := Lib.hid (show l = ofV f by rw [← HL.out]; simp [ofN])
      go_wp2
      go_ret
      exact ⟨A, n, c, rfl, by rw [← HF.out]; exact HO.out, hb⟩
end Go.Proofs.YtndekohimfjdeaaDoor
