/-
  Nets, the reference: link.
-/
import Derived.Test.YthajlhifgafpkaaNetRa
namespace Go.Proofs.Ythajlhifgafpkaa
open Go.RowKit Go.Shelf
theorem info_lk : (Try.prog.info? 87).map (fun i => (i.zero, i.size, i.bytes)) = some (some (.agg #[.int .i64 0, .int .i64 0, .bool false, .int .u64 0]), 4, 32) := by kernel_rfl
section
variable {W W' W'' : World} {base g nl cl n c nl' cl' : Nat} {AL A AL' : Option Addr} {LL LL' : List Lk} {vs : List PkV} {s s' : NS}
/-- The row of links has turned, and is noted. -/
theorem RN.links (h : RN W base g AL nl cl LL A n c vs s) (hown : W'.ownsRow base 87 4 (.slice AL' nl' cl') nl' (LL'.flatMap Lk.cells)) (hc : nl' ≤ cl') (hgr : W.grownBy W' (Value.slice AL nl cl).ownBlock)
    (hat : (Value.slice AL' nl' cl').ownBlock = (Value.slice AL nl cl).ownBlock ∨ (Value.slice AL' nl' cl').ownBlock = some W.heap.size) (hk : ∀ k, (rlook k LL').getD (false, 0) = s'.link k) (hfl : s'.fl = s.fl) (hla : s'.last = s.last) :
    RN (W'.setCell ⟨g, 0, none⟩ (.slice AL' nl' cl')) base g AL' nl' cl' LL' A n c vs s' ∧ Below base W (W'.setCell ⟨g, 0, none⟩ (.slice AL' nl' cl')) ∧ RCh g AL nl cl A n c AL' nl' cl' A n c W (W'.setCell ⟨g, 0, none⟩ (.slice AL' nl' cl')) := by
  obtain ⟨a1, a2, a3, a4⟩ := h.apart
  have hlt := h.lt
  have hb0 : base ≤ W.heap.size := Nat.le_of_lt (Nat.lt_of_le_of_lt h.b1 hlt)
  have hgne : ∀ j, (Value.slice AL' nl' cl').ownBlock = some j → j ≠ g := fun j hj e => by
    subst e
    rcases hat with e2 | e2
    · exact a1 (e2 ▸ hj)
    · rw [e2] at hj; injection hj with hj; omega
  have hgb : W'.heap[g]? = W.heap[g]? := hgr.block g hlt fun e => a1 e.symm
  have hset : ∀ j, j ≠ g → (W'.setCell ⟨g, 0, none⟩ (.slice AL' nl' cl')).heap[j]? = W'.heap[j]? := fun j hj => Below.heap_setCell W' _ _ j hj
  refine ⟨⟨?_, own_keep hown (fun j hj => hset j (hgne j hj)), hc, hk, h.hf.keep (fun j hj => (hset j (fun e => a2 (e ▸ hj))).trans (hgr.block j (h.hf.base_le j hj).2 fun e => a3 j e.symm hj)) (fun v hv j hj => (hset j (a4 v hv j hj).1).trans (hgr.block j (h.hf.blt v hv j hj).2 fun e => (a4 v hv j hj).2.1 e.symm)), h.hv.trans hfl.symm, h.b1⟩, ?_, ?_⟩
  · refine (heap_setCell_same W' g 0 _ _ _ (hgb.trans h.hg)).trans ?_
    rw [hla]
    rfl
  · exact ((Below.refl base W).grown hgr hb0 (fun j hj => (h.hl.lt j hj).1)).setCell h.b1 _
  · exact ⟨Nat.le_trans hgr.size (by simp [World.setCell]), fun j hj h1 h2 _ => (hset j h1).trans (hgr.block j hj fun e => h2 e.symm), fun j hj => hat.elim (fun e => .inl (e ▸ hj)) (fun e => .inr (by rw [e] at hj; injection hj with hj; omega)), fun j hj => .inl hj⟩
end
section
variable {o : Oper} {a : Act} {Q : Exit → Act → World → Prop} {w : World}
theorem wpList_appLk {ops : Array Oper} {rest : List Oper} (hgd : o.guard = none) (s x : Operand)
    (ho : o.op = .call { callee := .builtin .append, args := #[s, x], argTypes := #[82, 82] })
    (base : Nat) (A : Option Addr) (n c : Nat) (xs : List Lk) (hs : a.eval s = .slice A n c) (hown : w.ownsRow base 87 4 (.slice A n c) n (xs.flatMap Lk.cells))
    (B : Nat) (D : Option Addr) (d : Nat) (l : Lk) (hx : a.eval x = .slice D 1 d) (hr : Reads w B 4 D 1 l.cells)
    (N : Nat) (hN : n + 1 = N) (hlen : N ≤ 10000000) (hbase : base ≤ w.heap.size)
    (h : ∀ A' c' w', w'.ownsRow base 87 4 (.slice A' N c') N ((xs ++ [l]).flatMap Lk.cells) → N ≤ c' → w.grownBy w' (Value.slice A n c).ownBlock →
      ((Value.slice A' N c').ownBlock = (Value.slice A n c).ownBlock ∨ (Value.slice A' N c').ownBlock = some w.heap.size) → wpList Try.prog ops Q rest (a.put o.dst (.slice A' N c')) w') : wpList Try.prog ops Q (o :: rest) a w := by
  subst hN
  obtain ⟨i0, hi, hz0, hz1, hz2⟩ := info_parts info_lk
  refine wpList_append_any w hgd s x 82 ho base 87 i0 (.agg #[.int .i64 0, .int .i64 0, .bool false, .int .u64 0]) 4 32 Try.underlying82 hi hz0 hz1 hz2 rfl (by decide) (.slice A n c) n _ hs hown B D 1 d _ hx hr
    (fun u hu => by rcases l with ⟨a, b, up, run⟩; simp only [Lk.cells, List.mem_cons, List.not_mem_nil, or_false] at hu; rcases hu with rfl | rfl | rfl | rfl <;> rfl) (by simp only [maxLen]; omega) (by omega) hbase ?_
  intro v' w' hown' hg hat
  obtain ⟨A', c', rfl, hc⟩ := own_shape hown'
  exact h A' c' w' (by rw [List.flatMap_append]; simpa using hown') hc hg hat
end
set_option maxRecDepth 100000 in
set_option maxHeartbeats 4000000 in
theorem link_v {base g nl cl n c : Nat} {AL A : Option Addr} {LL : List Lk} {vs : List PkV} {s : NS} (a b : Int) (w : World) (h : RN w base g AL nl cl LL A n c vs s) (hnl : nl ≤ 1000000) :
    Calls Try.prog 53 #[.pointer (some ⟨g, 0, none⟩), .int .i64 a, .int .i64 b] w fun e w' => ∃ (i : Nat), e = .returned (.int .i64 (i : Int)) ∧ ∃ (nl' cl' : Nat) (AL' : Option Addr) (LL' : List Lk) (l : Lk), LL'[i]? = some l ∧ l.is (keyI a b) = true ∧ (∀ j x, j < i → LL'[j]? = some x → x.is (keyI a b) = false) ∧ (l.up, l.run) = s.link (keyI a b) ∧ nl' ≤ nl + 1 ∧
      RN w' base g AL' nl' cl' LL' A n c vs s ∧ Below base w w' ∧ RCh g AL nl cl A n c AL' nl' cl' A n c w w' := by
  have H := Lib.hid h
  have c0 := h.c0
  have HLN := Lib.hid h.llen
  clear h
  obtain ⟨mn, hmn⟩ : ∃ mn, min a b = mn := ⟨_, rfl⟩
  obtain ⟨mx, hmx⟩ : ∃ mx, max a b = mx := ⟨_, rfl⟩
  have HK := Lib.hid (show keyI a b = (mn, mx) by rw [keyI, hmn, hmx])
  have HMM := Lib.hid (And.intro hmn hmx)
  clear hmn hmx
  go_enter Try.func53, Try.ntmps53
  go_upto_region 2 with fail
  rw [show (if b < a then b else a) = mn by rw [← HMM.out.1]; split <;> omega, show (if a < b then b else a) = mx by rw [← HMM.out.2]; split <;> omega]
  go_wp2_with fail
  go_loop [7] (fun i => ∃ j : Nat, j ≤ nl ∧ i = .int .i64 (j : Int) ∧ ∀ q x, q < j → LL[q]? = some x → x.is (keyI a b) = false) (fun i => nl - (intOf i).toNat)
  case atStart => exact ⟨0, Nat.zero_le _, rfl, fun q x hq => by omega⟩
  case round =>
    obtain ⟨j, hj, rfl, hno⟩ := hrel
    have HNO := Lib.hid hno
    clear hno
    by_cases hlt : j < nl
    · obtain ⟨gl, l, rfl, hb, hl, hx, l0, l1, _, _⟩ := H.out.lat hlt
      have HX := Lib.hid hx
      have k0 : (0 : Int) ≤ (j : Int) := by omega
      have d0 : decide (j < nl) = true := by simpa using hlt
      have hlk : l.is (keyI a b) = (l.a == mn && l.b == mx) := by rw [HK.out]; rfl
      have HLK := Lib.hid hlk
      clear hx hlk
      by_cases h1 : l.a = mn
      · have d1 : (l.a == mn) = true := by simpa using h1
        by_cases h2 : l.b = mx
        · have d2 : (l.b == mx) = true := by simpa using h2
          have HI := Lib.hid (show l.is (keyI a b) = true by rw [HLK.out, d1, d2]; rfl)
          clear h1 h2
          go_wp2_with fail
          go_ret
          exact ⟨j, rfl, nl, cl, some ⟨gl, 0, none⟩, LL, l, HX.out, HI.out, HNO.out, by have := H.out.hk (keyI a b); rw [rlook_at HX.out HI.out HNO.out] at this; exact this, Nat.le_succ _, H.out, Below.refl _ _, RCh.refl _ _ _ _ _ _ _ _⟩
        · have d2 : (l.b == mx) = false := by simpa using h2
          have HI := Lib.hid (show l.is (keyI a b) = false by rw [HLK.out, d1, d2]; rfl)
          clear h1 h2
          go_wp2_with fail
          go_round
          case rel => exact ⟨j + 1, hlt, by go_num, fun q x hq hqx => by
            rcases Nat.lt_or_ge q j with h3 | h3
            · exact HNO.out q x h3 hqx
            · obtain rfl : q = j := by omega
              rw [HX.out] at hqx
              obtain rfl := Option.some.inj hqx
              exact HI.out⟩
          case measure => simp [intOf]; omega
      · have d1 : (l.a == mn) = false := by simpa using h1
        have HI := Lib.hid (show l.is (keyI a b) = false by rw [HLK.out, d1]; rfl)
        clear h1
        go_wp2_with fail
        go_round
        case rel => exact ⟨j + 1, hlt, by go_num, fun q x hq hqx => by
          rcases Nat.lt_or_ge q j with h3 | h3
          · exact HNO.out q x h3 hqx
          · obtain rfl : q = j := by omega
            rw [HX.out] at hqx
            obtain rfl := Option.some.inj hqx
            exact HI.out⟩
        case measure => simp [intOf]; omega
    · obtain rfl : nl = j := by omega
      have hb1 : base ≤ w.heap.size := Nat.le_of_lt (Nat.lt_of_le_of_lt H.out.b1 H.out.lt)
      have HNONE : ∀ x ∈ LL, x.is (keyI a b) = false := fun x hx => by
        obtain ⟨q, hq, hqx⟩ := List.getElem_of_mem hx
        exact HNO.out q x (by rw [← HLN.out]; exact hq) (by rw [List.getElem?_eq_getElem hq, hqx])
      have HNN := Lib.hid HNONE
      clear HNONE
      have d0 : decide (nl < nl) = false := by simp
      go_upto_region 7 with fail
      have BA := Lib.hid ((Below.refl w.heap.size w).alloc (Nat.le_refl _) (.cells #[.int .i64 mn, .int .i64 mx, .bool false, .int .u64 0] 87))
      have H3 := Lib.hid (H.out.below BA.out)
      have H0 := Lib.hid (show (rlook (keyI a b) LL).getD (false, 0) = s.link (keyI a b) from H.out.hk (keyI a b))
      have HNEW := Lib.hid (heap_alloc_new w (.cells #[.int .i64 mn, .int .i64 mx, .bool false, .int .u64 0] 87))
      have hz3 : w.heap.size < (w.alloc (.cells #[.int .i64 mn, .int .i64 mx, .bool false, .int .u64 0] 87)).heap.size := by simp
      have RD := Lib.hid (show Reads (w.alloc (.cells #[.int .i64 mn, .int .i64 mx, .bool false, .int .u64 0] 87)) (w.heap.size + 1) 4 (some ⟨w.heap.size, 0, none⟩) 1 (Lk.cells ⟨mn, mx, false, 0⟩) from
        ⟨rfl, fun _ => ⟨_, rfl, Nat.lt_succ_self _, fun j u hu => by rw [add_lit2, Nat.zero_add, heap_cell HNEW.out]; simpa [Lk.cells] using hu⟩⟩)
      have ES := Lib.hid (show Lk.cells ⟨mn, mx, false, 0⟩ = [.int .i64 mn, .int .i64 mx, .bool false, .int .u64 0] from rfl)
      have HBS := Lib.hid (show base ≤ (w.alloc (.cells #[.int .i64 mn, .int .i64 mx, .bool false, .int .u64 0] 87)).heap.size by omega)
      have m1 : IntKind.i64.wrap (((nl + 1 : Nat) : Int) - 1) = (nl : Int) := by rw [show ((nl + 1 : Nat) : Int) - 1 = (nl : Int) by omega]; exact IntWalk.i64_in _ ⟨by omega, by omega⟩
      have m2 : ((nl : Int) + 1) - 1 = (nl : Int) := by omega
      generalize hw1 : w.alloc (.cells #[.int .i64 mn, .int .i64 mx, .bool false, .int .u64 0] 87) = W1 at BA H3 HNEW hz3 RD HBS
      go_wp2_with (first
        | (at_builtin
           (try rw [hw1])
           go_must (refine wpList_appLk rfl (.tmp 50) (.tmp 54) rfl base AL nl cl LL rfl H3.out.hl (w.heap.size + 1) (some ⟨w.heap.size, 0, none⟩) 1 ⟨mn, mx, false, 0⟩ rfl RD.out (nl + 1) rfl (by omega) HBS.out ?_)
           intro AL2 cl2 W2 hown hc2 hgr hat
           have hgW : W2.heap[g]? = W1.heap[g]? := hgr.block g H3.out.lt (fun e => H3.out.apart.1 e.symm)
           have hG : W2.cell? ⟨g, 0, none⟩ = some (.slice AL nl cl) := (World.cell?_of_block hgW).trans H3.out.c0
           have f2 : W2.frozen? ⟨g, 0, none⟩ = false := frozen_of_row W2 g 0 _ _ (hgW.trans H3.out.hg)
           have RL := Lib.hid (H3.out.links (LL' := LL ++ [⟨mn, mx, false, 0⟩]) (s' := s) hown hc2 hgr hat (fun k => by
             rw [rlook_app, ← H3.out.hk k]
             cases hr : rlook k LL with
             | none => simp only [Option.none_or]; split <;> rfl
             | some v => rfl) rfl rfl)
           have c5 := RL.out.1.c0
           clear hown hat hgW hgr)
        | fail)
      go_ret
      refine ⟨nl, rfl, nl + 1, cl2, AL2, LL ++ [⟨mn, mx, false, 0⟩], ⟨mn, mx, false, 0⟩, by rw [← HLN.out]; simp, by rw [HK.out]; simp [Lk.is], fun j x hj hx => ?_, ?_, Nat.le_refl _, RL.out.1, (BA.out.mono hb1).trans RL.out.2.1, (RCh.below BA.out _ _ _ _ _ _ _).trans RL.out.2.2⟩
      · rw [List.getElem?_append_left (by rw [HLN.out]; exact hj)] at hx
        exact HNN.out x (List.mem_of_getElem? hx)
      · have := H0.out
        rw [rlook_none HNN.out] at this
        exact this
end Go.Proofs.Ythajlhifgafpkaa
