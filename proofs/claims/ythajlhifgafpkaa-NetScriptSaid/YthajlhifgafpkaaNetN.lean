/-
  Nets: Last, Peers, the kit's Ints.
-/
import Derived.Test.YthajlhifgafpkaaNetJ
namespace Go.Proofs.Ythajlhifgafpkaa
open Go.RowKit Go.Shelf
/-- An owned row of integers. -/
def IOwn (w : World) (base : Nat) (A : Option Addr) (n c : Nat) (l : List Int) : Prop := w.ownsRow base 3 1 (.slice A n c) n (l.map (Value.int .i64)) ∧ n ≤ c
abbrev IReads (w : World) (B : Nat) (A : Option Addr) (n : Nat) (l : List Int) : Prop := Reads w B 1 A n (l.map (Value.int .i64))
section
variable {w w' : World} {base n c : Nat} {A : Option Addr} {l : List Int}
theorem IOwn.reads (h : IOwn w base A n c l) : IReads w w.heap.size A n l := Reads.of_own h.1
theorem IOwn.nil_ (w : World) (base : Nat) : IOwn w base none 0 0 [] := ⟨World.ownsRow_nil w base _ 1, Nat.le_refl _⟩
theorem IOwn.base_le (h : IOwn w base A n c l) : ∀ j, (Value.slice A n c).ownBlock = some j → base ≤ j ∧ j < w.heap.size := h.1.lt
theorem IOwn.alloc (h : IOwn w base A n c l) (o : Obj) : IOwn (w.alloc o) base A n c l := ⟨h.1.alloc o, h.2⟩
theorem IOwn.below (h : IOwn w base A n c l) (hb : Below w.heap.size w w') : IOwn w' base A n c l := ⟨own_keep h.1 (fun j hj => hb.block j (h.base_le j hj).2), h.2⟩
theorem IReads.one (e : TypeId) (w : World) (z : Int) : IReads (w.alloc (.cells #[.int .i64 z] e)) (w.heap.size + 1) (some ⟨w.heap.size, 0, none⟩) 1 [z] := by
  refine ⟨rfl, fun _ => ⟨_, rfl, Nat.lt_succ_self _, fun j u hu => ?_⟩⟩
  have hj : j = 0 := by
    rcases j with _ | j
    · rfl
    · simp at hu
  subst hj
  simp only [List.map_cons, List.map_nil, List.getElem?_cons_zero, Option.some.injEq] at hu
  subst hu
  rw [show (⟨w.heap.size, 0, none⟩ : Addr).add 0 = ⟨w.heap.size, 0, none⟩ from rfl]
  exact World.cell?_alloc_at _ _ _ _ rfl
end
theorem info_int : (Try.prog.info? 3).map (fun i => (i.zero, i.size, i.bytes)) = some (some (.int .i64 0), 1, 8) := by kernel_rfl
section
variable {ops : Array Oper} {rest : List Oper} {o : Oper} {a : Act} {Q : Exit → Act → World → Prop} {w : World}
theorem wpList_appI (hgd : o.guard = none) (s x : Operand)
    (ho : o.op = .call { callee := .builtin .append, args := #[s, x], argTypes := #[56, 56] })
    (base : Nat) (A : Option Addr) (n c : Nat) (xs : List Int) (hs : a.eval s = .slice A n c) (hown : IOwn w base A n c xs)
    (B : Nat) (D : Option Addr) (m d : Nat) (l : List Int) (hx : a.eval x = .slice D m d) (hr : IReads w B D m l)
    (N : Nat) (L : List Int) (hN : n + m = N) (hL : xs ++ l = L) (hlen : N ≤ 1000000) (hbase : base ≤ w.heap.size)
    (h : ∀ A' c' w', IOwn w' base A' N c' L → w.grownBy w' (Value.slice A n c).ownBlock → wpList Try.prog ops Q rest (a.put o.dst (.slice A' N c')) w') : wpList Try.prog ops Q (o :: rest) a w := by
  subst hN hL
  obtain ⟨i0, hi, hz0, hz1, hz2⟩ := info_parts info_int
  refine wpList_append_any w hgd s x 56 ho base 3 i0 (.int .i64 0) 1 8 Try.underlying56 hi hz0 hz1 hz2 rfl (by decide) (.slice A n c) n _ hs hown.1 B D m d _ hx hr
    (fun u hu => by obtain ⟨y, _, rfl⟩ := List.mem_map.1 hu; rfl) (by simp only [maxLen]; omega) (by omega) hbase ?_
  intro v' w' hown' hg hat
  obtain ⟨A', c', rfl, hc⟩ := own_shape hown'
  exact h A' c' w' ⟨by rw [List.map_append]; exact hown', hc⟩ hg
end
set_option maxHeartbeats 1000000 in
theorem last_v {base g mb n c : Nat} {A : Option Addr} {vs : List PkV} {s : NS} (w : World) (h : NetIs w base g mb A n c vs s) :
    Calls Try.prog 22 #[.pointer (some ⟨g, 0, none⟩)] w fun e w' => e = .returned (.int .u64 (s.last : Int)) ∧ w = w' := by
  have H := Lib.hid h
  clear h
  go_enter Try.func22, Try.ntmps22
  go_wp2_with fail
  refine (right_v w H.out).mono ?_
  rintro e _ ⟨rfl, rfl⟩
  have c2 := H.out.c2
  go_wp2
  go_ret
  exact ⟨rfl, rfl⟩
def peersL (s : NS) (a : Int) (k : Nat) : List Int := ((List.range k).map fun i : Nat => ((i : Int) + 1)).filter fun b => (s.is a b).1
theorem peersL_succ (s : NS) (a : Int) (k : Nat) : peersL s a (k + 1) = peersL s a k ++ (if (s.is a ((k : Int) + 1)).1 = true then [(k : Int) + 1] else []) := by
  simp only [peersL, List.range_succ, List.map_append, List.filter_append]
  congr 1
  simp only [List.map_cons, List.map_nil, List.filter_cons, List.filter_nil]
theorem i64_small : ∀ k : Fin 16, I64 ((k.1 : Int) + 1) := by decide
set_option maxRecDepth 100000 in
set_option maxHeartbeats 2000000 in
theorem peers_v {base g mb n c : Nat} {A : Option Addr} {vs : List PkV} {s : NS} (a : Int) (w : World) (h : NetIs w base g mb A n c vs s) (ha : I64 a) :
    Calls Try.prog 25 #[.pointer (some ⟨g, 0, none⟩), .int .i64 a] w fun e w' => ∃ A' n' c', e = .returned (.slice A' n' c') ∧ IOwn w' w.heap.size A' n' c' (s.peers a) ∧ n' ≤ 16 ∧ Below w.heap.size w w' := by
  have H := Lib.hid h
  have HA := Lib.hid ha
  clear h ha
  go_enter Try.func25, Try.ntmps25
  go_wp2_with fail
  go_loopw [5, 6] (fun out i wr => ∃ (k n' c' : Nat) (A' : Option Addr), k ≤ 16 ∧ i = .int .i64 ((k : Int) + 1) ∧ out = .slice A' n' c' ∧ n' ≤ k ∧ IOwn wr w.heap.size A' n' c' (peersL s a k) ∧ Below w.heap.size w wr) (fun _ i _ => 17 - (intOf i).toNat)
  case atStart => exact ⟨0, 0, 0, none, Nat.zero_le _, rfl, rfl, Nat.le_refl _, IOwn.nil_ _ _, Below.refl _ _⟩
  case round =>
    obtain ⟨k, n', c', A', hk, rfl, rfl, hn', ho, hb⟩ := hrel
    have HO := Lib.hid ho
    have HB := Lib.hid hb
    have H1 := Lib.hid (H.out.below hb)
    clear ho hb
    have HP := Lib.hid (peersL_succ s a k)
    by_cases hlt : k < 16
    · have d1 : decide ((k : Int) + 1 ≤ 16) = true := by simp; omega
      have IV := Lib.hid (is_v a ((k : Int) + 1) wr H1.out HA.out (i64_small ⟨k, hlt⟩))
      obtain ⟨up, hup⟩ : ∃ u, (s.is a ((k : Int) + 1)).1 = u := ⟨_, rfl⟩
      rw [hup] at IV HP
      clear hup
      go_wp2_with fail
      refine IV.out.mono ?_
      rintro e w1 ⟨rfl, hb1⟩
      have HO1 := Lib.hid (HO.out.below hb1)
      have HB1 := Lib.hid (HB.out.trans (hb1.mono HB.out.size))
      clear hb1 IV HO HB
      cases up
      · go_wp2
        go_roundw
        case rel => exact ⟨k + 1, n', c', A', hlt, by go_num, rfl, by omega, by rw [HP.out]; simpa using HO1.out, HB1.out⟩
        case measure => simp [intOf]; omega
      · have hz1 := HB1.out.size
        go_wp2_with (first
          | (at_builtin
             refine wpList_appI rfl (.tmp 21) (.tmp 23) rfl w.heap.size A' n' c' (peersL s a k) rfl (HO1.out.alloc _) (w1.heap.size + 1) (some ⟨w1.heap.size, 0, none⟩) 1 1 [(k : Int) + 1] rfl (IReads.one _ _ _) (n' + 1) (peersL s a (k + 1)) rfl (by rw [HP.out]; rfl) (by omega) (by simp; omega) ?_
             intro A2 c2 w2 ho2 hg2
             have HO2 := Lib.hid ho2
             have HB2 := Lib.hid (show Below w.heap.size w w2 from (HB1.out.alloc hz1 _).grown hg2 (by simp; omega) (fun j hj => (HO1.out.base_le j hj).1))
             clear ho2 hg2)
          | fail)
        go_roundw
        case rel => exact ⟨k + 1, n' + 1, c2, A2, hlt, by go_num, rfl, by omega, HO2.out, HB2.out⟩
        case measure => simp [intOf]; omega
    · obtain rfl : k = 16 := by omega
      have d1 : decide (((16 : Nat) : Int) + 1 ≤ 16) = false := by decide
      go_wp2
      go_ret
      exact ⟨A', n', c', rfl, HO.out, hn', HB.out⟩
end Go.Proofs.Ythajlhifgafpkaa
