/-
  Nets, the reference: Down.
-/
import Derived.Test.YthajlhifgafpkaaNetRg
namespace Go.Proofs.Ythajlhifgafpkaa
open Go.RowKit Go.Shelf
section
variable {o : Oper} {a : Act} {Q : Exit → Act → World → Prop} {w : World}
theorem wpList_appPk {ops : Array Oper} {rest : List Oper} (hgd : o.guard = none) (s x : Operand)
    (ho : o.op = .call { callee := .builtin .append, args := #[s, x], argTypes := #[44, 44] })
    (base : Nat) (A : Option Addr) (n c : Nat) (xs : List PkV) (hs : a.eval s = .slice A n c) (hown : w.ownsRow base 34 5 (.slice A n c) n (xs.flatMap PkV.cells))
    (g d : Nat) (v : PkV) (hx : a.eval x = .slice (some ⟨g, 0, none⟩) 1 d) (hr : w.heap[g]? = some (.cells v.cells.toArray 34 (0, 0)))
    (N : Nat) (L : List PkV) (hN : n + 1 = N) (hL : xs ++ [v] = L) (hlen : N ≤ 10000000) (hbase : base ≤ w.heap.size)
    (h : ∀ A' c' w', w'.ownsRow base 34 5 (.slice A' N c') N (L.flatMap PkV.cells) → N ≤ c' → w.grownBy w' (Value.slice A n c).ownBlock → wpList Try.prog ops Q rest (a.put o.dst (.slice A' N c')) w') : wpList Try.prog ops Q (o :: rest) a w := by
  subst hN hL
  obtain ⟨i0, hi, hz0, hz1, hz2⟩ := info_parts info_pk
  have hr2 : Reads w w.heap.size 5 (some ⟨g, 0, none⟩) 1 v.cells := ⟨rfl, fun _ => ⟨_, rfl, (Array.getElem?_eq_some_iff.1 hr).1, fun j u hu => by rw [add_lit2, Nat.zero_add, heap_cell hr]; simpa using hu⟩⟩
  refine wpList_append_any w hgd s x 44 ho base 34 i0 _ 5 56 Try.underlying44 hi hz0 hz1 hz2 rfl (by decide) (.slice A n c) n _ hs hown w.heap.size (some ⟨g, 0, none⟩) 1 d _ hx hr2
    (fun u hu => PkV.ones [v] u (by simpa using hu)) (by simp only [maxLen]; omega) (by omega) hbase ?_
  intro v' w' hown' hg hat
  obtain ⟨A', c', rfl, hc⟩ := own_shape hown'
  exact h A' c' w' (by rw [List.flatMap_append]; simpa using hown') hc hg
end
theorem filter_succ {P : PkV → Bool} {vs : List PkV} {k : Nat} {v : PkV} (hv : vs[k]? = some v) : (vs.take (k + 1)).filter P = (vs.take k).filter P ++ (if P v = true then [v] else []) := by
  rw [List.take_add_one, hv, List.filter_append]
  congr 1
  simp [List.filter_cons]
theorem keyI_ite (a b : Int) : keyI a b = ((if b < a then b else a), (if a < b then b else a)) := by
  rw [keyI]
  congr 1
  · split <;> omega
  · split <;> omega
set_option maxRecDepth 100000 in
set_option maxHeartbeats 4000000 in
theorem rdown_v {base g nl cl n c : Nat} {AL A : Option Addr} {s : NS} (a b : Int) (w : World) (h : RNy w base g AL nl cl A n c s) (hnl : nl ≤ 1000000) (hn : n ≤ 4096) :
    Calls Try.prog 47 #[.pointer (some ⟨g, 0, none⟩), .int .i64 a, .int .i64 b] w fun e w' => e = .returned (.int .i64 ((s.down a b).1 : Int)) ∧ ∃ nl' : Nat, nl' ≤ nl + 1 ∧ ∃ cl' AL' n' c' A',
      RNy w' base g AL' nl' cl' A' n' c' (s.down a b).2 ∧ Below base w w' ∧ RCh g AL nl cl A n c AL' nl' cl' A' n' c' w w' := by
  obtain ⟨vs, LL, h⟩ := h
  have H := Lib.hid h
  have HI := Lib.hid (show (Try.prog.info? 34).map (·.size) = some 5 by kernel_rfl)
  have HLK := Lib.hid (fun W (hW : RN W base g AL nl cl LL A n c vs s) => link_v a b W hW hnl)
  have HFI := Lib.hid (fun W : World => fine_v a b W)
  obtain ⟨r, hr⟩ : ∃ r, s.down a b = r := ⟨_, rfl⟩
  have HU := Lib.hid (show r = if okDev a b = false then (2, s) else if (s.link (keyI a b)).1 = false then (9, s) else (0, ⟨(s.set (keyI a b) (false, (s.link (keyI a b)).2)).link, s.fl.filter (fun p => decide (keyI p.frm p.too ≠ keyI a b)), s.last⟩) from by rw [← hr]; rfl)
  rw [hr]
  clear h hr
  go_enter Try.func47, Try.ntmps47
  go_wp2_with fail
  refine (HFI.out _).mono ?_
  rintro e _ ⟨rfl, rfl⟩
  cases hok : okDev a b with
  | false =>
    go_wp2_with fail
    go_ret
    have HR := Lib.hid (show r = (2, s) by rw [HU.out, hok]; rfl)
    rw [HR.out]
    exact ⟨rfl, nl, Nat.le_succ _, cl, AL, n, c, A, ⟨vs, LL, H.out⟩, Below.refl _ _, RCh.refl _ _ _ _ _ _ _ _⟩
  | true =>
    go_wp2_with fail
    refine (HLK.out _ H.out).mono ?_
    rintro e w1 ⟨i, rfl, nl1, cl1, AL1, LL1, l, hx, hi, hno, hlk, hn1, h1, b1, r1⟩
    obtain ⟨gl, rfl, hil, c2, c3, fr, hne, hbg⟩ := h1.lk hx
    have c0 := h1.c0
    have k0 : (0 : Int) ≤ (i : Int) := by omega
    have H1 := Lib.hid h1
    have B1 := Lib.hid b1
    have R1 := Lib.hid r1
    have HX := Lib.hid (And.intro hx (And.intro hi hno))
    have HK := Lib.hid hlk
    clear h1 b1 r1 hx hi hno hlk
    cases hup : l.up with
    | false =>
      rw [hup] at c2
      go_wp2_with fail
      go_ret
      have e1 : (s.link (keyI a b)).1 = false := by rw [← HK.out]; exact hup
      have HR := Lib.hid (show r = (9, s) by rw [HU.out, hok, e1]; rfl)
      rw [HR.out]
      exact ⟨rfl, nl1, hn1, cl1, _, n, c, A, ⟨vs, LL1, H1.out⟩, B1.out, R1.out⟩
    | true =>
      rw [hup] at c2
      have f2 := fr (i * 4 + 2)
      go_upto_region 7 with fail
      obtain ⟨h2, b2, r2⟩ := H1.out.setLk (l' := ⟨l.a, l.b, false, l.run⟩) HX.out.1 HX.out.2.1 HX.out.2.2 2 (by omega) (.bool false) rfl rfl rfl
      have H2 := Lib.hid h2
      have B2 := Lib.hid (B1.out.trans b2)
      have R2 := Lib.hid (R1.out.trans r2)
      have e1 : (s.link (keyI a b)).1 = true := by rw [← HK.out]; exact hup
      have e2 : (s.link (keyI a b)).2 = l.run := by rw [← HK.out]
      have HR := Lib.hid (show r = (0, ⟨(s.set (keyI a b) (false, l.run)).link, s.fl.filter (fun p => decide (keyI p.frm p.too ≠ keyI a b)), s.last⟩) by rw [HU.out, hok, e1, e2]; rfl)
      clear h2 b2 r2 c2 c3 c0 fr f2 e1 e2
      generalize w1.setCell ⟨gl, i * 4 + 2, none⟩ (.bool false) = w2 at *
      obtain ⟨K, hK⟩ : ∃ K, keyI a b = K := ⟨_, rfl⟩
      rw [hK] at H2 HR
      obtain ⟨mna, hmna⟩ : ∃ x, (if b < a then b else a) = x := ⟨_, rfl⟩
      obtain ⟨mxa, hmxa⟩ : ∃ x, (if a < b then b else a) = x := ⟨_, rfl⟩
      have HKA := Lib.hid (show K = (mna, mxa) by rw [← hK, keyI_ite, hmna, hmxa])
      clear hK
      have HNP := Lib.hid H2.out.hf
      go_wp2_with fail
      go_loopw [8, 9] (fun out ix wr => ∃ (k m c' : Nat) (A' : Option Addr), k ≤ n ∧ ix = .int .i64 (k : Int) ∧ out = .slice A' m c' ∧ m ≤ k ∧ m ≤ c' ∧ wr.ownsRow w2.heap.size 34 5 (.slice A' m c') m (((vs.take k).filter fun v => decide (keyI v.pk.frm v.pk.too ≠ K)).flatMap PkV.cells) ∧ Below w2.heap.size w2 wr) (fun _ ix _ => n - (intOf ix).toNat)
      case atStart => exact ⟨0, 0, 0, none, Nat.zero_le _, rfl, rfl, Nat.le_refl _, Nat.le_refl _, World.ownsRow_nil _ _ _ 5, Below.refl _ _⟩
      case round =>
        obtain ⟨k, m, c', A', hk, rfl, rfl, hm, hmc, ho, hb⟩ := hrel
        have HO := Lib.hid ho
        have HB := Lib.hid hb
        have H3 := Lib.hid (H2.out.below hb)
        have d1 := H3.out.c1
        clear ho hb
        by_cases hlt : k < n
        · have q0 : decide (k < n) = true := by simpa using hlt
          obtain ⟨ga, v, rfl, hbga, hgal, hv, hc⟩ := H3.out.hf.at_ hlt
          have HC := Lib.hid (hc wr rfl)
          have HFS := Lib.hid (filter_succ (P := fun v => decide (keyI v.pk.frm v.pk.too ≠ K)) hv)
          have j0 : (0 : Int) ≤ (k : Int) := by omega
          clear hc hv
          have Z0 := Lib.hid (heap_alloc_new wr (.cells #[.int .u64 0, .int .i64 0, .int .i64 0, .int .u64 0, .slice none 0 0] 34))
          have Z1 := Lib.hid (setRow_heap _ wr.heap.size _ v.cells.toArray _ _ Z0.out)
          have BZ := Lib.hid (below_setRow ((Below.refl wr.heap.size wr).alloc (Nat.le_refl _) (.cells #[.int .u64 0, .int .i64 0, .int .i64 0, .int .u64 0, .slice none 0 0] 34)) (Nat.le_refl _) v.cells.toArray)
          have hbz := HB.out.size
          go_upto_region 12 with (first
            | (refine wpList_load_slot rfl 34 (.tmp 49) rfl ⟨ga, k * 5, none⟩ rfl v.cells _ HC.out Try.underlying34 rfl HI.out ?_)
            | (refine wpList_store_row rfl 34 (.tmp 10) (.tmp 50) rfl wr.heap.size v.cells.toArray rfl rfl 34 _ Z0.out HI.out rfl (PkV.all1 v) ?_)
            | fail)
          have hz4 : wr.heap.size < ((wr.alloc (.cells #[.int .u64 0, .int .i64 0, .int .i64 0, .int .u64 0, .slice none 0 0] 34)).setRow wr.heap.size v.cells.toArray).heap.size := by simp
          clear Z0 HC d1 q0
          generalize (wr.alloc (.cells #[.int .u64 0, .int .i64 0, .int .i64 0, .int .u64 0, .slice none 0 0] 34)).setRow wr.heap.size v.cells.toArray = w4 at *
          have B4 := Lib.hid (HB.out.trans (BZ.out.mono hbz))
          have O4 := Lib.hid (own_keep (w' := w4) HO.out fun j hj => BZ.out.block j (HO.out.lt j hj).2)
          obtain ⟨mnp, hmnp⟩ : ∃ x, (if v.pk.too < v.pk.frm then v.pk.too else v.pk.frm) = x := ⟨_, rfl⟩
          obtain ⟨mxp, hmxp⟩ : ∃ x, (if v.pk.frm < v.pk.too then v.pk.too else v.pk.frm) = x := ⟨_, rfl⟩
          have HKP := Lib.hid (show keyI v.pk.frm v.pk.too = (mnp, mxp) by rw [keyI_ite, hmnp, hmxp])
          have x1 : w4.cell? ⟨wr.heap.size, 1, none⟩ = some (.int .i64 v.pk.frm) := by rw [cell_of_row _ _ 1 _ _ _ Z1.out]; rfl
          have x2 : w4.cell? ⟨wr.heap.size, 2, none⟩ = some (.int .i64 v.pk.too) := by rw [cell_of_row _ _ 2 _ _ _ Z1.out]; rfl
          by_cases q1 : mnp = mna
          · have y1 : (mnp != mna) = false := by simpa using q1
            by_cases q2 : mxp = mxa
            · have y2 : (mxp != mxa) = false := by simpa using q2
              have HL := Lib.hid (show ((vs.take k).filter fun v => decide (keyI v.pk.frm v.pk.too ≠ K)) = (vs.take (k + 1)).filter fun v => decide (keyI v.pk.frm v.pk.too ≠ K) by
                rw [HFS.out, HKP.out, HKA.out, q1, q2]; simp)
              clear q1 q2
              go_wp2_with fail
              go_roundw
              case rel => exact ⟨k + 1, m, c', A', hlt, by go_num, rfl, by omega, hmc, by rw [← HL.out]; exact O4.out, B4.out⟩
              case measure => simp [intOf]; omega
            · have y2 : (mxp != mxa) = true := by simpa using q2
              have HQN := Lib.hid (show ((mnp, mxp) : Int × Int) ≠ (mna, mxa) from fun e => q2 (by injection e))
              clear q1 q2
              have HL := Lib.hid (show ((vs.take k).filter fun v => decide (keyI v.pk.frm v.pk.too ≠ K)) ++ [v] = (vs.take (k + 1)).filter fun v => decide (keyI v.pk.frm v.pk.too ≠ K) by
                rw [HFS.out, HKP.out, HKA.out, if_pos (by exact decide_eq_true HQN.out)])
              have O5 := Lib.hid (own_keep (w' := w4.alloc (.cells v.cells.toArray 34)) O4.out fun j hj => (Below.alloc (Below.refl w4.heap.size w4) (Nat.le_refl _) _).block j (O4.out.lt j hj).2)
              have B5 := Lib.hid (B4.out.alloc (by omega) (.cells v.cells.toArray 34))
              have HN5 := Lib.hid (heap_alloc_new w4 (.cells v.cells.toArray 34))
              have hz5 : (w4.alloc (.cells v.cells.toArray 34)).heap.size = w4.heap.size + 1 := by simp
              have HZ5 := Lib.hid (show w2.heap.size ≤ (w4.alloc (.cells v.cells.toArray 34)).heap.size by omega)
              have HM7 := Lib.hid (show m + 1 ≤ 10000000 by omega)
              clear hz5
              go_wp2_with (first
                | (refine wpList_load_row rfl 34 (.tmp 10) rfl wr.heap.size rfl 34 v.cells.toArray (0, 0) _ Z1.out Try.underlying34 rfl HI.out ?_)
                | (at_builtin
                   go_must (refine wpList_appPk (w := w4.alloc (.cells v.cells.toArray 34)) rfl (.tmp 71) (.tmp 73) rfl w2.heap.size A' m c' _ rfl O5.out w4.heap.size 1 v rfl HN5.out (m + 1) _ rfl HL.out HM7.out HZ5.out ?_)
                   intro A6 c6 w6 ho6 hc6 hg6
                   have O6 := Lib.hid ho6
                   have B6 := Lib.hid (B5.out.grown hg6 HZ5.out (fun j hj => (O5.out.lt j hj).1))
                   clear ho6 hg6)
                | fail)
              (try (focus (exfalso; have h5 := PkV.cells_len v; omega)))
              go_roundw
              case rel => exact ⟨k + 1, m + 1, c6, A6, hlt, by go_num, rfl, by omega, hc6, O6.out, B6.out⟩
              case measure => simp [intOf]; omega
          · have y1 : (mnp != mna) = true := by simpa using q1
            have HQN := Lib.hid (show ((mnp, mxp) : Int × Int) ≠ (mna, mxa) from fun e => q1 (by injection e))
            clear q1 hmxp hmxa
            go_upto_region 13 with fail
            have HL := Lib.hid (show ((vs.take k).filter fun v => decide (keyI v.pk.frm v.pk.too ≠ K)) ++ [v] = (vs.take (k + 1)).filter fun v => decide (keyI v.pk.frm v.pk.too ≠ K) by
              rw [HFS.out, HKP.out, HKA.out, if_pos (by exact decide_eq_true HQN.out)])
            have O5 := Lib.hid (own_keep (w' := w4.alloc (.cells v.cells.toArray 34)) O4.out fun j hj => (Below.alloc (Below.refl w4.heap.size w4) (Nat.le_refl _) _).block j (O4.out.lt j hj).2)
            have B5 := Lib.hid (B4.out.alloc (by omega) (.cells v.cells.toArray 34))
            have HN5 := Lib.hid (heap_alloc_new w4 (.cells v.cells.toArray 34))
            have hz5 : (w4.alloc (.cells v.cells.toArray 34)).heap.size = w4.heap.size + 1 := by simp
            have HZ5 := Lib.hid (show w2.heap.size ≤ (w4.alloc (.cells v.cells.toArray 34)).heap.size by omega)
            have HM7 := Lib.hid (show m + 1 ≤ 10000000 by omega)
            clear hz5
            go_wp2_with (first
              | (refine wpList_load_row rfl 34 (.tmp 10) rfl wr.heap.size rfl 34 v.cells.toArray (0, 0) _ Z1.out Try.underlying34 rfl HI.out ?_)
              | (at_builtin
                 go_must (refine wpList_appPk (w := w4.alloc (.cells v.cells.toArray 34)) rfl (.tmp 71) (.tmp 73) rfl w2.heap.size A' m c' _ rfl O5.out w4.heap.size 1 v rfl HN5.out (m + 1) _ rfl HL.out HM7.out HZ5.out ?_)
                 intro A6 c6 w6 ho6 hc6 hg6
                 have O6 := Lib.hid ho6
                 have B6 := Lib.hid (B5.out.grown hg6 HZ5.out (fun j hj => (O5.out.lt j hj).1))
                 clear ho6 hg6)
              | fail)
            (try (focus (exfalso; have h5 := PkV.cells_len v; omega)))
            go_roundw
            case rel => exact ⟨k + 1, m + 1, c6, A6, hlt, by go_num, rfl, by omega, hc6, O6.out, B6.out⟩
            case measure => simp [intOf]; omega
        · obtain rfl : n = k := by omega
          have q0 : decide (n < n) = false := by simp
          have f1 := H3.out.fr 1
          go_wp2_with fail
          have HP := Lib.hid (show PkRow wr base A' m c' (vs.filter fun v => decide (keyI v.pk.frm v.pk.too ≠ K)) from ⟨own_down (by have := HO.out; rwa [List.take_of_length_le (by rw [H2.out.hf.len]; exact Nat.le_refl _)] at this) (Nat.le_of_lt (Nat.lt_of_le_of_lt H2.out.b1 H2.out.lt)), hmc, fun u hu => H3.out.hf.bytes u ((List.mem_filter.1 hu).1)⟩)
          obtain ⟨h5, b5, r5⟩ := H2.out.newRowB HB.out HP.out (fun j hj => (HO.out.lt j hj).1)
          have HF := Lib.hid (show (vs.filter fun v => decide (keyI v.pk.frm v.pk.too ≠ K)).map (·.pk) = s.fl.filter (fun p => decide (keyI p.frm p.too ≠ K)) by
            rw [← H.out.hv, List.filter_map]
            rfl)
          go_ret
          rw [HR.out]
          exact ⟨rfl, nl1, hn1, cl1, _, m, c', A', ⟨_, _, by rw [← HF.out]; exact h5⟩, B2.out.trans b5, R2.out.trans r5⟩
end Go.Proofs.Ythajlhifgafpkaa
