/-
  Rows of the call's own: one value put in, one taken out (slices.Insert, slices.Delete).
-/
import Derived.Test.YtikegnnlmfidfaaMatG
import Derived.Lib.AppendZerosOnto
import Derived.Lib.AppendZeros
import Derived.Lib.Overlaps
import Derived.Laws.Externs
import Derived.Laws.IdiomCopy
import Derived.Test.YtikegnnlmfidfaaTextT
namespace Go.Proofs.Ytikegnnlmfidfaa
open Go.RowKit
theorem add_lit2 (g o j : Nat) : (⟨g, o, none⟩ : Addr).add j = ⟨g, o + j, none⟩ := by unfold Addr.add; split <;> simp_all
theorem run_copy_seg {P : Program} (w : World) (dT sT ty elem : TypeId) (K g o dLen dCap : Nat) (a : Addr) (sLen sCap q : Nat) (cur : Array Value) (t : TypeId) (cs : List Value)
    (hu : P.underlying dT = some (.slice elem)) (hs : (P.info? elem).map (·.size) = some K) (hg : w.heap[g]? = some (.cells cur t (0, 0))) (hq : Nat.min sLen dLen = q) (hl : cs.length = q * K)
    (hsrc : ∀ j v, cs[j]? = some v → w.cell? (a.add j) = some v) (hfit : o + cs.length ≤ cur.size) (h1 : ∀ v ∈ cs, v.oneCell' = true) :
    (Builtin.copy_ #[dT, sT] ty #[.slice (some ⟨g, o, none⟩) dLen dCap, .slice (some a) sLen sCap]).run P w =
      .ok (goInt q) (w.setRow g (cur.toList.take o ++ cs ++ cur.toList.drop (o + cs.length)).toArray) := by
  have hld := run_loadCells_list (P := P) w a cs hsrc
  have hst := run_storeCells_at P g o t cs 0 cur w hg (by simpa using hfit) h1
  cases hqq : P.info? elem with
  | none => simp [hqq] at hs
  | some i =>
    have hi : i.size = K := by simpa [hqq] using hs
    simp [Builtin.copy_, run_underlying hu, Builtin.lenOf, Builtin.firstCells, sizeOf, typeInfo, hqq, hi, hq, ← hl, hld, hst]
theorem wp_copy_run {P : Program} (w : World) {o : Oper} {a : Act} {K : Act → World → Prop} {Q : Exit → Act → World → Prop} (d s : Operand) (t t' : TypeId)
    (ho : o.op = .call { callee := .builtin .copy, args := #[d, s], argTypes := #[t, t'] }) (v u : Value) (hd : a.eval d = v) (hs : a.eval s = u) {v' : Value} {w' : World}
    (hr : (Builtin.copy_ #[t, t'] o.type #[v, u]).run P w = .ok v' w') (h : K (a.put o.dst v') w') : o.wp P a w K Q := by
  unfold Oper.wp execOp
  simp only [ho, resolve, invoke, builtin, Sem.run_bind, Sem.run_pure, Result.andThen_ok, List.map_toArray, List.map_cons, List.map_nil, hd, hs, hr]
  exact h
theorem wpList_copy_run {P : Program} (w : World) {ops : Array Oper} {rest : List Oper} {o : Oper} {a : Act} {Q : Exit → Act → World → Prop} (hgd : o.guard = none) (d s : Operand) (t t' : TypeId)
    (ho : o.op = .call { callee := .builtin .copy, args := #[d, s], argTypes := #[t, t'] }) (v u : Value) (hd : a.eval d = v) (hs : a.eval s = u) {v' : Value} {w' : World}
    (hr : (Builtin.copy_ #[t, t'] o.type #[v, u]).run P w = .ok v' w') (h : wpList P ops Q rest (a.put o.dst v') w') : wpList P ops Q (o :: rest) a w :=
  wpList_plain hgd fun _ hK => wp_copy_run w d s t t' ho v u hd hs hr (hK _ _ h)
theorem seg2 {α : Type} {L P V D : List α} {a k d : Nat} (hP : L.take a = P) (ha : P.length = a) (hV : V.length = k) (hD : D.length = d) :
    ((L.take a ++ V ++ L.drop (a + k)).take (a + k) ++ D ++ (L.take a ++ V ++ L.drop (a + k)).drop (a + k + d)).take (a + k + d) = P ++ V ++ D := by
  have h1 : (P ++ V ++ L.drop (a + k)).take (a + k) = P ++ V := by rw [List.take_left' (by rw [List.length_append, ha, hV])]
  rw [hP, h1, List.take_left' (by rw [List.length_append, List.length_append, ha, hV, hD])]
theorem seg3 {α : Type} {L V D : List α} {a k d : Nat} (ha : a + k ≤ L.length) (hV : V.length = k) (hD : D.length = d) :
    ((L.take (a + k) ++ D ++ L.drop (a + k + d)).take a ++ V ++ (L.take (a + k) ++ D ++ L.drop (a + k + d)).drop (a + k)).take (a + k + d) = L.take a ++ V ++ D := by
  have hl : (L.take (a + k)).length = a + k := by rw [List.length_take]; omega
  have h1 : (L.take (a + k) ++ D ++ L.drop (a + k + d)).take a = L.take a := by
    rw [List.append_assoc, List.take_append_of_le_length (by rw [hl]; omega), List.take_take, Nat.min_eq_left (by omega)]
  have h2 : (L.take (a + k) ++ D ++ L.drop (a + k + d)).drop (a + k) = D ++ L.drop (a + k + d) := by
    rw [List.append_assoc, List.drop_left' hl]
  rw [h1, h2, ← List.append_assoc, List.take_left' (by rw [List.length_append, List.length_append, List.length_take, hV, hD]; omega)]
theorem seg_len {L V : List Value} {a k : Nat} (h : a + k ≤ L.length) (hV : V.length = k) : (L.take a ++ V ++ L.drop (a + k)).length = L.length := by
  rw [List.length_append, List.length_append, List.length_take, List.length_drop, hV]
  omega
theorem own_block {w : World} {base n c g K : Nat} {e : TypeId} {xs : List Value} (h : w.ownsRow base e K (.slice (some ⟨g, 0, none⟩) n c) n xs) : ∃ cur, base ≤ g ∧ w.heap[g]? = some (.cells cur e (0, 0)) ∧ n ≤ c ∧ c ≤ maxLen ∧ cur.size = c * K ∧ cur.toList.take (n * K) = xs := by
  rcases h.2 with ⟨h, _⟩ | ⟨g', cap', cur, h, hbg, hg, hnc, hcm, hcs, htake⟩
  · simp at h
  · simp only [Value.slice.injEq, Option.some.injEq, Addr.mk.injEq, and_true, true_and] at h
    obtain ⟨rfl, rfl⟩ := h
    exact ⟨cur, hbg, hg, hnc, hcm, hcs, htake⟩
theorem own_some {w : World} {base n c K : Nat} {e : TypeId} {A : Option Addr} {xs : List Value} (h : w.ownsRow base e K (.slice A n c) n xs) (hn : 0 < n) : ∃ g, A = some ⟨g, 0, none⟩ := by
  rcases h.2 with ⟨h, h0⟩ | ⟨g, cap', cur, h, _⟩
  · omega
  · simp only [Value.slice.injEq] at h
    exact ⟨g, h.1⟩
theorem grown_setRow {w w' : World} {g : Nat} (h : w.grownBy w' (some g)) (cs : Array Value) : w.grownBy (w'.setRow g cs) (some g) :=
  ⟨h.os, h.tape, h.output, by simpa [World.setRow] using h.size, fun j hj hne => (setRow_other w' g j cs (fun e => hne (by rw [e]))).trans (h.block j hj hne)⟩
theorem take_shift {α : Type} {L : List α} {a j : Nat} {u : α} {xs : List α} {m : Nat} (ht : L.take m = xs) (hu : (xs.drop a)[j]? = some u) : L[a + j]? = some u := by
  rw [List.getElem?_drop] at hu
  rw [← ht, List.getElem?_take] at hu
  split at hu
  · exact hu
  · cases hu
theorem run_append_zeros_own {P : Program} (w : World) (t tn ty e : TypeId) (i0 : TypeInfo) (z : Value) (K : Nat) (ht : P.underlying t = some (.slice e)) (htn : P.underlying tn = some (.int .i64)) (hi : P.info? e = some i0) (hz : i0.zero = some z)
    (hsz : i0.size = K) (hzs : z.cells.size = K) (hK : 0 < K) (hby : i0.bytes ≤ 1000) (base g n c i : Nat) (xs : List Value) (hown : w.ownsRow base e K (.slice (some ⟨g, 0, none⟩) n c) n xs) (hin : i < n) (hn : n ≤ 1000000) (hc : c < n + 1) :
    ∃ (G : Nat) (Z : List Value), n + 1 ≤ G ∧ G ≤ maxLen ∧ Z.length = (G - i) * K ∧ (Builtin.append_ #[t, tn] ty #[.slice (some ⟨g, 0, none⟩) i c, .int .i64 ((n + 1 - i : Nat) : Int)]).run P w =
      .ok (.slice (some ⟨w.heap.size, 0, none⟩) (n + 1) G) (w.drew.alloc (.cells (xs.take (i * K) ++ Z).toArray e)) := by
  obtain ⟨cur, _, hg, hnc, hcm, hcs, htk⟩ := own_block hown
  have hold : (Builtin.firstCells i0.size i (.slice (some ⟨g, 0, none⟩) i c)).run P w.drew = .ok (xs.take (i * K)).toArray w.drew := by
    have hl : (xs.take (i * K)).length = i * K := by rw [List.length_take, hown.1]; exact Nat.min_eq_left (Nat.mul_le_mul_right _ (by omega))
    have h := run_loadCells_list (P := P) w.drew ⟨g, 0, none⟩ (xs.take (i * K)) (fun j v hv => by
      have h1 := hown.cells (g := g) rfl j v (by
        rw [List.getElem?_take] at hv
        split at hv
        · exact hv
        · cases hv)
      exact h1)
    rw [hl] at h
    rw [hsz]
    exact h
  have h := Lib.run_append_grow_zeros (P := P) w t tn ty e i0 z .i64 .i64 ht htn hi hz (some ⟨g, 0, none⟩) i c _ hold (n + 1 - i) (by omega) (by omega) (by omega) (by omega) (by have := Nat.mul_le_mul (show n + 1 - i ≤ 1000001 by omega) hby; omega)
    (by
      rw [show i + (n + 1 - i) = n + 1 by omega]
      have h1 := nextslicecap_le (need := n + 1) (old := c) hc
      have := Nat.mul_le_mul (Nat.le_trans h1 (show 2 * (n + 1) ≤ 2000002 by omega)) hby
      omega)
  rw [show i + (n + 1 - i) = n + 1 by omega] at h
  have hge := grownCap_ge w (n + 1) c e
  refine ⟨grownCap w (n + 1) c e, (Builtin.zeroCells z.cells (n + 1 - i)).toList ++ (Builtin.zeroCells z.cells (grownCap w (n + 1) c e - (n + 1))).toList, hge, grownCap_le_maxLen w (n + 1) c e (by simp only [maxLen]; omega), ?_, ?_⟩
  · rw [List.length_append, Array.length_toList, Array.length_toList, size_zeroCells, size_zeroCells, hzs, ← Nat.add_mul]
    congr 1
    omega
  · rw [h]
    congr 3
    simp
theorem info_R : (Try.prog.info? 56).map (fun i => (i.zero, i.size, i.bytes)) = some (some (.agg #[.string ⟨#[]⟩, .slice none 0 0]), 2, 40) := by kernel_rfl
set_option maxRecDepth 100000 in
set_option maxHeartbeats 16000000 in
theorem insertR_v (base : Nat) (A : Option Addr) (n c i gv : Nat) (xs vs : List Value) (w : World) (h : w.ownsRow base 56 2 (.slice A n c) n xs) (h1 : ∀ u ∈ xs, u.oneCell' = true) (hi : i ≤ n) (hn : n ≤ 1000000) (hb : base ≤ w.heap.size)
    (hv : w.heap[gv]? = some (.cells vs.toArray 56 (0, 0))) (hvl : vs.length = 2) (hv1 : ∀ u ∈ vs, u.oneCell' = true) (hgv : (Value.slice A n c).ownBlock ≠ some gv) :
    Calls Try.prog 44 #[.slice A n c, .int .i64 (i : Int), .slice (some ⟨gv, 0, none⟩) 1 1] w fun e w' => ∃ A' c', e = .returned (.slice A' (n + 1) c') ∧
      w'.ownsRow base 56 2 (.slice A' (n + 1) c') (n + 1) (xs.take (i * 2) ++ vs ++ xs.drop (i * 2)) ∧ w.grownBy w' (Value.slice A n c).ownBlock := by
  have H := Lib.hid h
  have HXL := Lib.hid h.1
  have HV := Lib.hid hv
  have HVL := Lib.hid hvl
  have HV1 := Lib.hid hv1
  have H1 := Lib.hid h1
  have HGV := Lib.hid hgv
  have HZ := Lib.hid (show (Try.prog.info? 56).map (·.size) = some 2 by kernel_rfl)
  have hnc : n ≤ c := by
    rcases h.2 with ⟨hh, h0⟩ | ⟨g, cap', cur, hh, _, _, h2, _⟩
    · simp only [Value.slice.injEq] at hh; omega
    · simp only [Value.slice.injEq] at hh; omega
  have hcm : c ≤ 9223372036854775807 := by
    rcases h.2 with ⟨hh, h0⟩ | ⟨g, cap', cur, hh, _, _, _, h2, _⟩
    · simp only [Value.slice.injEq] at hh; omega
    · simp only [Value.slice.injEq, maxLen] at hh h2; omega
  have hgl : gv < w.heap.size := (Array.getElem?_eq_some_iff.1 hv).1
  have HVC := Lib.hid (show ∀ V : World, V.heap[gv]? = w.heap[gv]? → ∀ j u, vs[j]? = some u → V.cell? ((⟨gv, 0, none⟩ : Addr).add j) = some u from fun V hV j u hu => by
    rw [add_lit2, Nat.zero_add, cell_of_row _ _ j _ _ _ (hV.trans hv)]
    simpa using hu)
  obtain ⟨i0, hi0, hz0, hz1, hz2⟩ := info_parts info_R
  clear h hv hvl hv1 h1 hgv
  have k0 : (0 : Int) ≤ (i : Int) := by omega
  have k1 : i ≤ c := by omega
  go_enter Try.func44, Try.ntmps44
  by_cases hin : i = n
  · subst hin
    have e2 := Lib.hid (show xs.take (i * 2) = xs from List.take_of_length_le (by rw [HXL.out]; exact Nat.le_refl _))
    have e3 := Lib.hid (show xs.drop (i * 2) = [] from List.drop_of_length_le (by rw [HXL.out]; exact Nat.le_refl _))
    by_cases hci : c = i
    · subst hci
      go_wp2_with (first
        | (refine wpList_append_any w rfl (.tmp 23) (.tmp 24) 25 rfl base 56 i0 _ 2 40 Try.underlying25 hi0 hz0 hz1 hz2 rfl (by decide) (.slice A _ _) _ xs rfl H.out (gv + 1) (some ⟨gv, 0, none⟩) 1 1 vs rfl ⟨by rw [HVL.out], fun _ => ⟨_, rfl, Nat.lt_succ_self _, HVC.out w rfl⟩⟩ HV1.out (by simp only [maxLen]; omega) (by omega) hb ?_
           intro v' w1 ho1 hg1 _
           obtain ⟨A1, c1, rfl, _⟩ := own_shape ho1)
        | fail)
      have HO1 := Lib.hid ho1
      have HG1 := Lib.hid hg1
      clear ho1 hg1
      go_ret
      exact ⟨A1, c1, rfl, by rw [e2.out, e3.out, List.append_nil]; exact HO1.out, HG1.out⟩
    go_wp2_with (first
      | (refine wpList_append_any w rfl (.tmp 23) (.tmp 24) 25 rfl base 56 i0 _ 2 40 Try.underlying25 hi0 hz0 hz1 hz2 rfl (by decide) (.slice A _ _) _ xs rfl H.out (gv + 1) (some ⟨gv, 0, none⟩) 1 1 vs rfl ⟨by rw [HVL.out], fun _ => ⟨_, rfl, Nat.lt_succ_self _, HVC.out w rfl⟩⟩ HV1.out (by simp only [maxLen]; omega) (by omega) hb ?_
         intro v' w1 ho1 hg1 _
         obtain ⟨A1, c1, rfl, _⟩ := own_shape ho1)
      | fail)
    have HO1 := Lib.hid ho1
    have HG1 := Lib.hid hg1
    clear ho1 hg1
    go_ret
    exact ⟨A1, c1, rfl, by rw [e2.out, e3.out, List.append_nil]; exact HO1.out, HG1.out⟩
  have hlt : i < n := by omega
  have e1 : ((i : Int) == (n : Int)) = false := beq_eq_false_iff_ne.2 (by omega)
  clear hin
  obtain ⟨g, rfl⟩ := own_some H.out (by omega)
  obtain ⟨cur, hbg, hg, _, _, hcs, htk⟩ := own_block H.out
  have HG := Lib.hid hg
  have HTK := Lib.hid htk
  have HCS := Lib.hid hcs
  have hgg : g < w.heap.size := (Array.getElem?_eq_some_iff.1 hg).1
  have hne : gv ≠ g := fun e => HGV.out (by rw [e]; rfl)
  have HOC := Lib.hid (show ∀ V : World, V.heap[g]? = w.heap[g]? → ∀ j u, (xs.drop (i * 2))[j]? = some u → V.cell? ((⟨g, i * 2, none⟩ : Addr).add j) = some u from fun V hV j u hu => by
    rw [add_lit2, cell_of_row _ _ _ _ _ _ (hV.trans hg)]
    have h := take_shift htk hu
    rw [Array.getElem?_toList] at h
    exact h)
  have HDL := Lib.hid (show (xs.drop (i * 2)).length = (n - i) * 2 by rw [List.length_drop, HXL.out, Nat.sub_mul])
  have HTL := Lib.hid (show (xs.take (i * 2)).length = i * 2 by rw [List.length_take, HXL.out]; exact Nat.min_eq_left (Nat.mul_le_mul_right _ hi))
  have HD1 := Lib.hid (show ∀ u ∈ xs.drop (i * 2), u.oneCell' = true from fun u hu => H1.out u (List.mem_of_mem_drop hu))
  have k2 : ¬ (c = i) := by omega
  clear hg htk hcs
  have e2 : IntKind.i64.wrap ((n : Int) + 1) = (n : Int) + 1 := IntWalk.i64_in _ (by omega)
  by_cases hroom : c < n + 1
  · have d1 : decide ((c : Int) < (n : Int) + 1) = true := decide_eq_true (by omega)
    have d2 : decide (c < n + 1) = true := decide_eq_true (by omega)
    have e3 : IntKind.i64.wrap ((n : Int) + 1 - (i : Int)) = ((n + 1 - i : Nat) : Int) := by rw [IntWalk.i64_in _ (by omega)]; omega
    obtain ⟨G, Z, hG1, hG2, hZL, hrun⟩ := run_append_zeros_own (P := Try.prog) w 25 3 25 56 i0 (.agg #[.string ⟨#[]⟩, .slice none 0 0]) 2 Try.underlying25 Try.underlying3 hi0 hz0 hz1 rfl (by decide) (by omega) base g n c i xs H.out hlt hn hroom
    simp only [maxLen] at hG2
    obtain ⟨TT, hTT⟩ : ∃ TT, xs.take (i * 2) = TT := ⟨_, rfl⟩
    rw [hTT] at hrun
    have HTT := Lib.hid hTT
    have HTL := Lib.hid (show TT.length = i * 2 by rw [← hTT]; exact HTL.out)
    clear hTT
    have HRUN := Lib.hid hrun
    have HZL := Lib.hid hZL
    clear hrun hZL
    have X1 := Lib.hid (show (w.alloc (.cells (TT ++ Z).toArray 56)).drew.heap[w.heap.size]? = some (.cells (TT ++ Z).toArray 56 (0, 0)) from heap_alloc_new w _)
    have hz1' : (w.alloc (.cells (TT ++ Z).toArray 56)).drew.heap.size = w.heap.size + 1 := by simp [World.drew]
    have B1 := Lib.hid (show Below w.heap.size w (w.alloc (.cells (TT ++ Z).toArray 56)).drew from ((Below.refl w.heap.size w).alloc (Nat.le_refl _) _).drew)
    have f1 : ¬ (G = i) := by omega
    have f2 : ¬ (G = i + 1) := by omega
    have f3 : i ≤ n + 1 := by omega
    have f4 : i + 1 ≤ n + 1 := by omega
    have f5 : (i : Int) + 1 ≤ (n : Int) + 1 := by omega
    have f6 : (0 : Int) ≤ (i : Int) + 1 := by omega
    have f7 : ((i : Int) + 1).toNat = i + 1 := by omega
    have f8 : i ≤ G := by omega
    have f9 : i + 1 ≤ G := by omega
    go_upto_region 10 with (at_builtin; go_loud (refine Lib.wpList_append_run w rfl _ _ 25 3 rfl _ _ rfl rfl _ _ HRUN.out ?_))
    generalize (w.alloc (.cells (TT ++ Z).toArray 56)).drew = W1 at *
    obtain ⟨cs1, hcs1⟩ : ∃ cs1 : List Value, cs1 = (TT ++ Z).take (i * 2) ++ vs ++ (TT ++ Z).drop (i * 2 + 2) := ⟨_, rfl⟩
    have hlen0 : (TT ++ Z).length = G * 2 := by rw [List.length_append, HTL.out, HZL.out, ← Nat.add_mul]; congr 1; omega
    have hm1 : (i + 1) * 2 ≤ G * 2 := Nat.mul_le_mul_right _ f9
    have X2 := Lib.hid (show (W1.setRow w.heap.size cs1.toArray).heap[w.heap.size]? = some (.cells cs1.toArray 56 (0, 0)) from setRow_heap _ _ _ _ _ _ X1.out)
    have B2 := Lib.hid (below_setRow B1.out (Nat.le_refl _) cs1.toArray)
    have HR1 := Lib.hid (show ∀ dC, (Builtin.copy_ #[25, 25] 3 #[.slice (some ⟨w.heap.size, i * 2, none⟩) (n + 1 - i) dC, .slice (some ⟨gv, 0, none⟩) 1 1]).run Try.prog W1 = .ok (goInt 1) (W1.setRow w.heap.size cs1.toArray) from fun dC => by
      have h := run_copy_seg (P := Try.prog) W1 25 25 3 56 2 w.heap.size (i * 2) (n + 1 - i) dC ⟨gv, 0, none⟩ 1 1 1 _ 56 vs Try.underlying25 HZ.out X1.out (by show min _ _ = _; omega) (by rw [HVL.out]) (HVC.out W1 (B1.out.block gv hgl)) (by rw [HVL.out, List.size_toArray, hlen0]; omega) HV1.out
      rw [h, hcs1, HVL.out]
      rfl)
    go_upto_region 11 with (first | (refine wpList_copy_run W1 rfl (.tmp 43) (.tmp 44) 25 25 rfl _ _ rfl rfl (HR1.out _) ?_) | fail)
    have hlen1 : cs1.length = G * 2 := by rw [hcs1, seg_len (by rw [hlen0]; omega) HVL.out, hlen0]
    have HCS1 := Lib.hid hcs1
    have hgs : w.heap.size < (W1.setRow w.heap.size cs1.toArray).heap.size := by simp [World.setRow]; omega
    generalize W1.setRow w.heap.size cs1.toArray = W2 at *
    clear HR1 HRUN X1 hcs1
    obtain ⟨cs2, hcs2⟩ : ∃ cs2 : List Value, cs2 = cs1.take (i * 2 + 2) ++ xs.drop (i * 2) ++ cs1.drop (i * 2 + 2 + (n - i) * 2) := ⟨_, rfl⟩
    have hm2 : i * 2 + 2 + (n - i) * 2 = (n + 1) * 2 := by rw [← Nat.succ_mul, ← Nat.add_mul]; congr 1; omega
    have hm3 : (n + 1) * 2 ≤ G * 2 := Nat.mul_le_mul_right _ hG1
    have X3 := Lib.hid (fun V (hV : V.heap[w.heap.size]? = W2.heap[w.heap.size]?) => setRow_heap V w.heap.size _ cs2.toArray _ _ (hV.trans X2.out))
    have HR2 := Lib.hid (show ∀ V : World, V.heap[w.heap.size]? = W2.heap[w.heap.size]? → V.heap[g]? = w.heap[g]? → ∀ dL dC sC, n - i ≤ dL → dL ≤ n - i → (Builtin.copy_ #[25, 25] 3 #[.slice (some ⟨w.heap.size, (i + 1) * 2, none⟩) dL dC, .slice (some ⟨g, i * 2, none⟩) (n - i) sC]).run Try.prog V = .ok (goInt (n - i : Nat)) (V.setRow w.heap.size cs2.toArray) from fun V hV hVg dL dC sC hd1 hd2 => by
      have h := run_copy_seg (P := Try.prog) V 25 25 3 56 2 w.heap.size ((i + 1) * 2) dL dC ⟨g, i * 2, none⟩ (n - i) sC (n - i) _ 56 (xs.drop (i * 2)) Try.underlying25 HZ.out (hV.trans X2.out) (by show min _ _ = _; omega) HDL.out (HOC.out V hVg) (by rw [HDL.out, List.size_toArray, hlen1]; omega) HD1.out
      rw [h, hcs2, HDL.out]
      rw [Nat.succ_mul])
    refine wp_region_tree (SK.one 0 false <| .one 1 false <| .one 2 false <| .one 3 false <| .one 4 false <| .one 5 false <| .one 6 false <| .one 7 false <| .one 8 true .done) (fun V => Below 0 V V ∧ Below 0 V V) (by kernel_rfl) (by kernel_rfl) (by kernel_rfl) (by kernel_rfl) ?_
    have hS : Below 0 W2.drew W2.drew ∧ Below 0 W2.drew W2.drew := ⟨Below.refl _ _, Below.refl _ _⟩
    have q1 := HR2.out W2.drew rfl (B2.out.block g hgg)
    have q2 := X3.out W2.drew rfl
    have q3 := below_setRow (g := w.heap.size) (show Below w.heap.size w W2.drew from B2.out.drew) (Nat.le_refl _) cs2.toArray
    generalize W2.drew = W3 at *
    ((first | (refine TR.val2 (v := ?_) _ (by simp only [List.getElem?_toArray, List.getElem?_cons_zero]; rfl) ?_ ?_ ?_ ?_ ?_; rotate_left; (focus rfl); (focus (intro W hSW; (try dsimp only at hSW); (try (obtain ⟨hS1, hSW⟩ := hSW)); (try (obtain ⟨hS2, hSW⟩ := hSW)); (try (obtain ⟨hS3, hSW⟩ := hSW)); (try (obtain ⟨hS4, hSW⟩ := hSW)); (try (obtain ⟨hS5, hSW⟩ := hSW)); (try (obtain ⟨hS6, hSW⟩ := hSW)); (try (obtain ⟨hS7, hSW⟩ := hSW)); (try (obtain ⟨hS8, hSW⟩ := hSW)); go_simp; (try with_reducible rfl); done)); (focus exact fun _ _ _ h => h); (focus assumption)) | (refine TR.skip _ (by simp only [List.getElem?_toArray, List.getElem?_cons_zero]; rfl) ?_ ?_ ?_ ?_; (focus rfl); (focus exact fun _ _ _ h => h); (focus assumption))); simp only [Act.put, List.setIfInBounds_toArray, List.set_cons_zero, List.set_cons_succ])
    iterate 2 ((first | (refine TR.val2 (v := ?_) _ (by simp only [List.getElem?_toArray, List.getElem?_cons_succ, List.getElem?_cons_zero]; rfl) ?_ ?_ ?_ ?_ ?_; rotate_left; (focus rfl); (focus (intro W hSW; (try dsimp only at hSW); (try (obtain ⟨hS1, hSW⟩ := hSW)); (try (obtain ⟨hS2, hSW⟩ := hSW)); (try (obtain ⟨hS3, hSW⟩ := hSW)); (try (obtain ⟨hS4, hSW⟩ := hSW)); (try (obtain ⟨hS5, hSW⟩ := hSW)); (try (obtain ⟨hS6, hSW⟩ := hSW)); (try (obtain ⟨hS7, hSW⟩ := hSW)); (try (obtain ⟨hS8, hSW⟩ := hSW)); go_simp; (try with_reducible rfl); done)); (focus exact fun _ _ _ h => h); (focus assumption)) | (refine TR.skip _ (by simp only [List.getElem?_toArray, List.getElem?_cons_succ, List.getElem?_cons_zero]; rfl) ?_ ?_ ?_ ?_; (focus rfl); (focus exact fun _ _ _ h => h); (focus assumption))); simp only [Act.put, List.setIfInBounds_toArray, List.set_cons_zero, List.set_cons_succ])
    have hwr : IntKind.i64.wrap ((i : Int) + 1) = (i : Int) + 1 := IntWalk.i64_in _ (by omega)
    iterate 2 ((first | (refine TR.val2 (v := ?_) _ (by simp only [List.getElem?_toArray, List.getElem?_cons_succ, List.getElem?_cons_zero]; rfl) ?_ ?_ ?_ ?_ ?_; rotate_left; (focus rfl); (focus (intro W hSW; (try dsimp only at hSW); (try (obtain ⟨hS1, hSW⟩ := hSW)); (try (obtain ⟨hS2, hSW⟩ := hSW)); (try (obtain ⟨hS3, hSW⟩ := hSW)); (try (obtain ⟨hS4, hSW⟩ := hSW)); (try (obtain ⟨hS5, hSW⟩ := hSW)); (try (obtain ⟨hS6, hSW⟩ := hSW)); (try (obtain ⟨hS7, hSW⟩ := hSW)); (try (obtain ⟨hS8, hSW⟩ := hSW)); go_simp; (try with_reducible rfl); done)); (focus exact fun _ _ _ h => h); (focus assumption)) | (refine TR.skip _ (by simp only [List.getElem?_toArray, List.getElem?_cons_succ, List.getElem?_cons_zero]; rfl) ?_ ?_ ?_ ?_; (focus rfl); (focus exact fun _ _ _ h => h); (focus assumption))); simp only [Act.put, List.setIfInBounds_toArray, List.set_cons_zero, List.set_cons_succ])
    clear hwr
    iterate 3 ((first | (refine TR.val2 (v := ?_) _ (by simp only [List.getElem?_toArray, List.getElem?_cons_succ, List.getElem?_cons_zero]; rfl) ?_ ?_ ?_ ?_ ?_; rotate_left; (focus rfl); (focus (intro W hSW; (try dsimp only at hSW); (try (obtain ⟨hS1, hSW⟩ := hSW)); (try (obtain ⟨hS2, hSW⟩ := hSW)); (try (obtain ⟨hS3, hSW⟩ := hSW)); (try (obtain ⟨hS4, hSW⟩ := hSW)); (try (obtain ⟨hS5, hSW⟩ := hSW)); (try (obtain ⟨hS6, hSW⟩ := hSW)); (try (obtain ⟨hS7, hSW⟩ := hSW)); (try (obtain ⟨hS8, hSW⟩ := hSW)); go_simp; (try with_reducible rfl); done)); (focus exact fun _ _ _ h => h); (focus assumption)) | (refine TR.skip _ (by simp only [List.getElem?_toArray, List.getElem?_cons_succ, List.getElem?_cons_zero]; rfl) ?_ ?_ ?_ ?_; (focus rfl); (focus exact fun _ _ _ h => h); (focus assumption))); simp only [Act.put, List.setIfInBounds_toArray, List.set_cons_zero, List.set_cons_succ])
    refine TR.eff _ (by simp only [List.getElem?_toArray, List.getElem?_cons_succ, List.getElem?_cons_zero]; rfl) (by rfl) (fun K hK => ?_)
    refine wp_copy_run W3 _ _ 25 25 rfl _ _ rfl rfl (q1 _ _ _ (by omega) (by omega)) ?_
    refine hK.out _ _ ⟨Below.refl _ _, Below.refl _ _⟩ ?_
    refine TR.done ?_
    have hcs2l : cs2.length = G * 2 := by rw [hcs2, seg_len (V := xs.drop (i * 2)) (a := i * 2 + 2) (k := (n - i) * 2) (by rw [hlen1]; omega) HDL.out, hlen1]
    have HO := Lib.hid (show (W3.setRow w.heap.size cs2.toArray).ownsRow base 56 2 (.slice (some ⟨w.heap.size, 0, none⟩) (n + 1) G) (n + 1) (TT ++ vs ++ xs.drop (i * 2)) from by
      refine ⟨by rw [List.length_append, List.length_append, HTL.out, HVL.out, HDL.out]; exact hm2, .inr ⟨w.heap.size, G, _, rfl, hb, q2, hG1, by simp only [maxLen]; omega, by rw [List.size_toArray, hcs2l], ?_⟩⟩
      rw [List.toList_toArray, hcs2, ← hm2, HCS1.out]
      exact seg2 (List.take_left' HTL.out) HTL.out HVL.out HDL.out)
    have HB3 := Lib.hid q3
    clear q1 q2 q3 hS hK
    generalize W3.setRow w.heap.size cs2.toArray = W4 at *
    go_wp2_with fail
    go_ret
    exact ⟨_, G, rfl, by rw [HTT.out]; exact HO.out, ⟨HB3.out.os, HB3.out.tape, HB3.out.output, HB3.out.size, fun j hj _ => HB3.out.block j hj⟩⟩
  · have hr2 : n + 1 ≤ c := by omega
    have d1 : decide ((c : Int) < (n : Int) + 1) = false := decide_eq_false (by omega)
    have d2 : decide (c < n + 1) = false := decide_eq_false (by omega)
    have f2 : ¬ (c = i + 1) := by omega
    have f4 : i + 1 ≤ n + 1 := by omega
    have f5 : (i : Int) + 1 ≤ (n : Int) + 1 := by omega
    have f6 : (0 : Int) ≤ (i : Int) + 1 := by omega
    have f7 : ((i : Int) + 1).toNat = i + 1 := by omega
    have f9 : i + 1 ≤ c := by omega
    have g1 : (0 : Int) ≤ (n : Int) + 1 := by omega
    have g2 : ((n : Int) + 1).toNat = n + 1 := by omega
    have g3 : (n : Int) + 1 ≤ (c : Int) := by omega
    have hwr : IntKind.i64.wrap ((i : Int) + 1) = (i : Int) + 1 := IntWalk.i64_in _ (by omega)
    have f10 : i ≤ n + 1 := by omega
    have f11 : (i : Int) ≤ (n : Int) + 1 := by omega
    go_upto_region 14 with fail
    go_wp2_with fail
    rw [run_callFunc_extern Try.func63 (by kernel_rfl) (by kernel_rfl) (by kernel_rfl) (e := Extern.SlicesOverlaps.overlaps #[25, 25] #[4]) (by kernel_rfl),
      Lib.run_overlaps_apart w 25 4 56 Try.underlying25 2 (fun V => by rw [run_sizeOf V hi0, show Try.prog.cellsOf 56 = 2 by kernel_rfl]) ⟨gv, 0, none⟩ ⟨g, (i + 1) * 2, none⟩ _ _ _ _ hne 56 56 2 (c * 2) (by unfold World.shape?; rw [HV.out]; simp [HVL.out]) (by unfold World.shape?; rw [HG.out]; simp [HCS.out]) (by omega) (by unfold World.frozen?; rw [HV.out]; simp) (by unfold World.frozen?; rw [HV.out]; simp)]
    simp only [Result.andThen]
    rw [Oper.upon_value]
    clear hwr
    obtain ⟨cs1, hcs1⟩ : ∃ cs1 : List Value, cs1 = cur.toList.take (i * 2 + 2) ++ xs.drop (i * 2) ++ cur.toList.drop (i * 2 + 2 + (n - i) * 2) := ⟨_, rfl⟩
    have hm2 : i * 2 + 2 + (n - i) * 2 = (n + 1) * 2 := by rw [← Nat.succ_mul, ← Nat.add_mul]; congr 1; omega
    have hm3 : (n + 1) * 2 ≤ c * 2 := Nat.mul_le_mul_right _ hr2
    have hcl : cur.toList.length = c * 2 := by rw [Array.length_toList, HCS.out]
    have hlen1 : cs1.length = c * 2 := by rw [hcs1, seg_len (V := xs.drop (i * 2)) (a := i * 2 + 2) (k := (n - i) * 2) (by rw [hcl]; omega) HDL.out, hcl]
    have HR1 := Lib.hid (show ∀ V : World, V.heap[g]? = w.heap[g]? → ∀ dL dC sL sC, n - i ≤ dL → dL ≤ n - i → n - i ≤ sL → (Builtin.copy_ #[25, 25] 3 #[.slice (some ⟨g, (i + 1) * 2, none⟩) dL dC, .slice (some ⟨g, i * 2, none⟩) sL sC]).run Try.prog V = .ok (goInt (n - i : Nat)) (V.setRow g cs1.toArray) from fun V hVg dL dC sL sC hd1 hd2 hd3 => by
      have h := run_copy_seg (P := Try.prog) V 25 25 3 56 2 g ((i + 1) * 2) dL dC ⟨g, i * 2, none⟩ sL sC (n - i) _ 56 (xs.drop (i * 2)) Try.underlying25 HZ.out (hVg.trans HG.out) (by show min _ _ = _; omega) HDL.out (HOC.out V hVg) (by rw [HDL.out, HCS.out]; omega) HD1.out
      rw [h, hcs1, HDL.out]
      rw [Nat.succ_mul])
    obtain ⟨cs2, hcs2⟩ : ∃ cs2 : List Value, cs2 = cs1.take (i * 2) ++ vs ++ cs1.drop (i * 2 + 2) := ⟨_, rfl⟩
    have HR2 := Lib.hid (show ∀ V : World, V.heap[g]? = some (.cells cs1.toArray 56 (0, 0)) → V.heap[gv]? = w.heap[gv]? → ∀ dC, (Builtin.copy_ #[25, 25] 3 #[.slice (some ⟨g, i * 2, none⟩) (n + 1 - i) dC, .slice (some ⟨gv, 0, none⟩) 1 1]).run Try.prog V = .ok (goInt 1) (V.setRow g cs2.toArray) from fun V hV hVv dC => by
      have h := run_copy_seg (P := Try.prog) V 25 25 3 56 2 g (i * 2) (n + 1 - i) dC ⟨gv, 0, none⟩ 1 1 1 _ 56 vs Try.underlying25 HZ.out hV (by show min _ _ = _; omega) (by rw [HVL.out]) (HVC.out V hVv) (by rw [HVL.out, List.size_toArray, hlen1]; omega) HV1.out
      rw [h, hcs2, HVL.out]
      rfl)
    have hcs2l : cs2.length = c * 2 := by rw [hcs2, seg_len (by rw [hlen1]; omega) HVL.out, hlen1]
    have HTA := Lib.hid (show cs2.take ((n + 1) * 2) = xs.take (i * 2) ++ vs ++ xs.drop (i * 2) by
      have h1 : xs.take (i * 2) = cur.toList.take (i * 2) := by rw [← HTK.out, List.take_take, Nat.min_eq_left (Nat.mul_le_mul_right _ hi)]
      rw [hcs2, hcs1, ← hm2, h1]
      exact seg3 (by rw [hcl]; omega) HVL.out HDL.out)
    clear hcs1 hcs2
    go_upto_region 15 with fail
    refine wp_region_tree (SK.one 0 false <| .one 1 false <| .one 2 false <| .one 3 false <| .one 4 false <| .one 5 false <| .one 6 false <| .one 7 false <| .one 8 true .done) (fun V => Below 0 V V ∧ Below 0 V V) (by kernel_rfl) (by kernel_rfl) (by kernel_rfl) (by kernel_rfl) ?_
    have hS : Below 0 w.drew w.drew ∧ Below 0 w.drew w.drew := ⟨Below.refl _ _, Below.refl _ _⟩
    have q1 := HR1.out w.drew rfl
    have q2 : (w.drew.setRow g cs1.toArray).heap[g]? = some (.cells cs1.toArray 56 (0, 0)) := setRow_heap _ _ _ _ _ _ HG.out
    have q3 : (w.drew.setRow g cs1.toArray).heap[gv]? = w.heap[gv]? := setRow_other _ _ _ _ hne
    have q4 : w.grownBy (w.drew.setRow g cs1.toArray) (some g) := grown_setRow (show w.grownBy w.drew (some g) from ⟨rfl, rfl, rfl, Nat.le_refl _, fun _ _ _ => rfl⟩) _
    generalize w.drew = W3 at *
    ((first | (refine TR.val2 (v := ?_) _ (by simp only [List.getElem?_toArray, List.getElem?_cons_zero]; rfl) ?_ ?_ ?_ ?_ ?_; rotate_left; (focus rfl); (focus (intro W hSW; (try dsimp only at hSW); (try (obtain ⟨hS1, hSW⟩ := hSW)); (try (obtain ⟨hS2, hSW⟩ := hSW)); (try (obtain ⟨hS3, hSW⟩ := hSW)); (try (obtain ⟨hS4, hSW⟩ := hSW)); (try (obtain ⟨hS5, hSW⟩ := hSW)); (try (obtain ⟨hS6, hSW⟩ := hSW)); (try (obtain ⟨hS7, hSW⟩ := hSW)); (try (obtain ⟨hS8, hSW⟩ := hSW)); go_simp; (try with_reducible rfl); done)); (focus exact fun _ _ _ h => h); (focus assumption)) | (refine TR.skip _ (by simp only [List.getElem?_toArray, List.getElem?_cons_zero]; rfl) ?_ ?_ ?_ ?_; (focus rfl); (focus exact fun _ _ _ h => h); (focus assumption))); simp only [Act.put, List.setIfInBounds_toArray, List.set_cons_zero, List.set_cons_succ])
    iterate 2 ((first | (refine TR.val2 (v := ?_) _ (by simp only [List.getElem?_toArray, List.getElem?_cons_succ, List.getElem?_cons_zero]; rfl) ?_ ?_ ?_ ?_ ?_; rotate_left; (focus rfl); (focus (intro W hSW; (try dsimp only at hSW); (try (obtain ⟨hS1, hSW⟩ := hSW)); (try (obtain ⟨hS2, hSW⟩ := hSW)); (try (obtain ⟨hS3, hSW⟩ := hSW)); (try (obtain ⟨hS4, hSW⟩ := hSW)); (try (obtain ⟨hS5, hSW⟩ := hSW)); (try (obtain ⟨hS6, hSW⟩ := hSW)); (try (obtain ⟨hS7, hSW⟩ := hSW)); (try (obtain ⟨hS8, hSW⟩ := hSW)); go_simp; (try with_reducible rfl); done)); (focus exact fun _ _ _ h => h); (focus assumption)) | (refine TR.skip _ (by simp only [List.getElem?_toArray, List.getElem?_cons_succ, List.getElem?_cons_zero]; rfl) ?_ ?_ ?_ ?_; (focus rfl); (focus exact fun _ _ _ h => h); (focus assumption))); simp only [Act.put, List.setIfInBounds_toArray, List.set_cons_zero, List.set_cons_succ])
    have hwr : IntKind.i64.wrap ((i : Int) + 1) = (i : Int) + 1 := IntWalk.i64_in _ (by omega)
    iterate 2 ((first | (refine TR.val2 (v := ?_) _ (by simp only [List.getElem?_toArray, List.getElem?_cons_succ, List.getElem?_cons_zero]; rfl) ?_ ?_ ?_ ?_ ?_; rotate_left; (focus rfl); (focus (intro W hSW; (try dsimp only at hSW); (try (obtain ⟨hS1, hSW⟩ := hSW)); (try (obtain ⟨hS2, hSW⟩ := hSW)); (try (obtain ⟨hS3, hSW⟩ := hSW)); (try (obtain ⟨hS4, hSW⟩ := hSW)); (try (obtain ⟨hS5, hSW⟩ := hSW)); (try (obtain ⟨hS6, hSW⟩ := hSW)); (try (obtain ⟨hS7, hSW⟩ := hSW)); (try (obtain ⟨hS8, hSW⟩ := hSW)); go_simp; (try with_reducible rfl); done)); (focus exact fun _ _ _ h => h); (focus assumption)) | (refine TR.skip _ (by simp only [List.getElem?_toArray, List.getElem?_cons_succ, List.getElem?_cons_zero]; rfl) ?_ ?_ ?_ ?_; (focus rfl); (focus exact fun _ _ _ h => h); (focus assumption))); simp only [Act.put, List.setIfInBounds_toArray, List.set_cons_zero, List.set_cons_succ])
    clear hwr
    iterate 3 ((first | (refine TR.val2 (v := ?_) _ (by simp only [List.getElem?_toArray, List.getElem?_cons_succ, List.getElem?_cons_zero]; rfl) ?_ ?_ ?_ ?_ ?_; rotate_left; (focus rfl); (focus (intro W hSW; (try dsimp only at hSW); (try (obtain ⟨hS1, hSW⟩ := hSW)); (try (obtain ⟨hS2, hSW⟩ := hSW)); (try (obtain ⟨hS3, hSW⟩ := hSW)); (try (obtain ⟨hS4, hSW⟩ := hSW)); (try (obtain ⟨hS5, hSW⟩ := hSW)); (try (obtain ⟨hS6, hSW⟩ := hSW)); (try (obtain ⟨hS7, hSW⟩ := hSW)); (try (obtain ⟨hS8, hSW⟩ := hSW)); go_simp; (try with_reducible rfl); done)); (focus exact fun _ _ _ h => h); (focus assumption)) | (refine TR.skip _ (by simp only [List.getElem?_toArray, List.getElem?_cons_succ, List.getElem?_cons_zero]; rfl) ?_ ?_ ?_ ?_; (focus rfl); (focus exact fun _ _ _ h => h); (focus assumption))); simp only [Act.put, List.setIfInBounds_toArray, List.set_cons_zero, List.set_cons_succ])
    refine TR.eff _ (by simp only [List.getElem?_toArray, List.getElem?_cons_succ, List.getElem?_cons_zero]; rfl) (by rfl) (fun K hK => ?_)
    refine wp_copy_run W3 _ _ 25 25 rfl _ _ rfl rfl (q1 _ _ _ _ (by omega) (by omega) (by omega)) ?_
    refine hK.out _ _ ⟨Below.refl _ _, Below.refl _ _⟩ ?_
    refine TR.done ?_
    have HR3 := Lib.hid (HR2.out _ q2 q3)
    have q5 : ((W3.setRow g cs1.toArray).setRow g cs2.toArray).heap[g]? = some (.cells cs2.toArray 56 (0, 0)) := setRow_heap _ _ _ _ _ _ q2
    have q6 := Lib.hid (grown_setRow q4 cs2.toArray)
    have HO := Lib.hid (show ((W3.setRow g cs1.toArray).setRow g cs2.toArray).ownsRow base 56 2 (.slice (some ⟨g, 0, none⟩) (n + 1) c) (n + 1) (xs.take (i * 2) ++ vs ++ xs.drop (i * 2)) from
      ⟨by rw [List.length_append, List.length_append, HTL.out, HVL.out, HDL.out]; exact hm2, .inr ⟨g, c, _, rfl, hbg, q5, hr2, by simp only [maxLen]; omega, by rw [List.size_toArray, hcs2l], HTA.out⟩⟩)
    clear q1 q2 q3 q4 q5 hS hK HR1 HR2
    generalize W3.setRow g cs1.toArray = W4 at *
    go_wp2_with (first | (refine wpList_copy_run W4 rfl (.tmp 80) (.tmp 81) 25 25 rfl _ _ rfl rfl (HR3.out _) ?_) | fail)
    go_ret
    exact ⟨_, c, rfl, HO.out, q6.out⟩
set_option maxRecDepth 100000 in
set_option maxHeartbeats 8000000 in
theorem deleteR_v (base g n c k : Nat) (xs : List Value) (w : World) (h : w.ownsRow base 56 2 (.slice (some ⟨g, 0, none⟩) n c) n xs) (h1 : ∀ u ∈ xs, u.oneCell' = true) (hk : k < n) (hn : n ≤ 1000000) :
    Calls Try.prog 45 #[.slice (some ⟨g, 0, none⟩) n c, .int .i64 (k : Int), .int .i64 ((k : Int) + 1)] w fun e w' => e = .returned (.slice (some ⟨g, 0, none⟩) (n - 1) c) ∧
      w'.ownsRow base 56 2 (.slice (some ⟨g, 0, none⟩) (n - 1) c) (n - 1) (xs.take (k * 2) ++ xs.drop ((k + 1) * 2)) ∧ w.grownBy w' (some g) := by
  obtain ⟨cur, _, _, hnc, _, _, _⟩ := own_block h
  have H := Lib.hid h
  have HXL := Lib.hid h.1
  have H1 := Lib.hid h1
  clear h h1
  have k0 : (0 : Int) ≤ (k : Int) := by omega
  have k1 : k + 1 ≤ n := hk
  have e1 : ((k : Int) == (k : Int) + 1) = false := by rw [beq_eq_false_iff_ne]; omega
  have t1 : ((k : Int) + 1).toNat = k + 1 := by omega
  have q0 : (0 : Int) ≤ (k : Int) + 1 := by omega
  have q1 : (k : Int) ≤ (k : Int) + 1 := by omega
  have q2 : (k : Int) + 1 ≤ (n : Int) := by omega
  have q3 : (k : Int) ≤ (c : Int) := by omega
  have q4 : k ≤ n := by omega
  have q5 : k ≤ c := by omega
  have q6 : k ≤ k + 1 := by omega
  go_enter Try.func45, Try.ntmps45
  go_upto_region 5 with fail
  refine wp_region_tree (SK.one 0 false <| .one 1 false <| .one 2 false <| .one 3 false <| .one 4 false <| .one 5 false <| .one 6 true <| .one 7 false .done) (fun V => Below 0 V V ∧ Below 0 V V) (by kernel_rfl) (by kernel_rfl) (by kernel_rfl) (by kernel_rfl) ?_
  have hS : Below 0 w.drew w.drew ∧ Below 0 w.drew w.drew := ⟨Below.refl _ _, Below.refl _ _⟩
  have HO := Lib.hid H.out.drew
  have G1 := Lib.hid (show w.grownBy w.drew (some g) from ⟨rfl, rfl, rfl, Nat.le_refl _, fun _ _ _ => rfl⟩)
  clear H
  generalize w.drew = V0 at *
  ((first | (refine TR.val2 (v := ?_) _ (by simp only [List.getElem?_toArray, List.getElem?_cons_zero]; rfl) ?_ ?_ ?_ ?_ ?_; rotate_left; (focus rfl); (focus (intro W hSW; (try dsimp only at hSW); (try (obtain ⟨hS1, hSW⟩ := hSW)); (try (obtain ⟨hS2, hSW⟩ := hSW)); (try (obtain ⟨hS3, hSW⟩ := hSW)); (try (obtain ⟨hS4, hSW⟩ := hSW)); (try (obtain ⟨hS5, hSW⟩ := hSW)); (try (obtain ⟨hS6, hSW⟩ := hSW)); (try (obtain ⟨hS7, hSW⟩ := hSW)); (try (obtain ⟨hS8, hSW⟩ := hSW)); go_simp; (try with_reducible rfl); done)); (focus exact fun _ _ _ h => h); (focus assumption)) | (refine TR.skip _ (by simp only [List.getElem?_toArray, List.getElem?_cons_zero]; rfl) ?_ ?_ ?_ ?_; (focus rfl); (focus exact fun _ _ _ h => h); (focus assumption))); simp only [Act.put, List.setIfInBounds_toArray, List.set_cons_zero, List.set_cons_succ])
  iterate 5 ((first | (refine TR.val2 (v := ?_) _ (by simp only [List.getElem?_toArray, List.getElem?_cons_succ, List.getElem?_cons_zero]; rfl) ?_ ?_ ?_ ?_ ?_; rotate_left; (focus rfl); (focus (intro W hSW; (try dsimp only at hSW); (try (obtain ⟨hS1, hSW⟩ := hSW)); (try (obtain ⟨hS2, hSW⟩ := hSW)); (try (obtain ⟨hS3, hSW⟩ := hSW)); (try (obtain ⟨hS4, hSW⟩ := hSW)); (try (obtain ⟨hS5, hSW⟩ := hSW)); (try (obtain ⟨hS6, hSW⟩ := hSW)); (try (obtain ⟨hS7, hSW⟩ := hSW)); (try (obtain ⟨hS8, hSW⟩ := hSW)); go_simp; (try with_reducible rfl); done)); (focus exact fun _ _ _ h => h); (focus assumption)) | (refine TR.skip _ (by simp only [List.getElem?_toArray, List.getElem?_cons_succ, List.getElem?_cons_zero]; rfl) ?_ ?_ ?_ ?_; (focus rfl); (focus exact fun _ _ _ h => h); (focus assumption))); simp only [Act.put, List.setIfInBounds_toArray, List.set_cons_zero, List.set_cons_succ])
  obtain ⟨ad, had, hcell⟩ : ∃ ad, (if c = k + 1 then some (⟨g, 0, none⟩ : Addr) else some ⟨g, (k + 1) * 2, none⟩) = some ad ∧ ∀ j u, (xs.drop ((k + 1) * 2))[j]? = some u → V0.cell? (ad.add j) = some u := by
    by_cases hck : c = k + 1
    · refine ⟨_, by rw [if_pos hck], fun j u hu => ?_⟩
      have : xs.drop ((k + 1) * 2) = [] := List.drop_of_length_le (by rw [HXL.out]; exact Nat.mul_le_mul_right _ (by omega))
      rw [this] at hu
      simp at hu
    · refine ⟨_, by rw [if_neg hck], fun j u hu => ?_⟩
      rw [List.getElem?_drop] at hu
      have := HO.out.cells (g := g) rfl _ u hu
      rw [add_lit2, Nat.zero_add] at this
      rw [add_lit2]
      exact this
  have HC := Lib.hid hcell
  obtain ⟨m, rfl⟩ : ∃ m, n = m + 1 := ⟨n - 1, by omega⟩
  have hN1 : k + (m + 1 - (k + 1)) = m := by omega
  have HD := Lib.hid (own_head HO.out q4)
  clear hcell
  rw [had]
  obtain ⟨i0, hi, hz0, hz1, hz2⟩ := info_parts info_R
  refine TR.eff _ (by simp only [List.getElem?_toArray, List.getElem?_cons_succ, List.getElem?_cons_zero]; rfl) (by rfl) (fun K hK => ?_)
  refine wp_append_fits (.tmp 22) (.tmp 25) 25 rfl base 56 i0 2 Try.underlying25 hi hz1 g k c _ rfl HD.out ad (m + 1 - (k + 1)) _ (xs.drop ((k + 1) * 2)) rfl (by rw [List.length_drop, HXL.out, ← Nat.sub_mul]) HC.out (fun u hu => H1.out u (List.mem_of_mem_drop hu)) (by omega) ?_
  rw [hN1]
  intro w1 hown1 hg1
  have O1 := Lib.hid hown1
  have G2 := Lib.hid (G1.out.trans hg1)
  refine hK.out _ _ ⟨Below.refl _ _, Below.refl _ _⟩ ?_
  clear hK hown1 hg1 G1 HD HC had i0 hi hz0 hz1 hz2
  (try simp only [Act.put, List.setIfInBounds_toArray, List.set_cons_zero, List.set_cons_succ])
  have hS : Below 0 w1 w1 ∧ Below 0 w1 w1 := ⟨Below.refl _ _, Below.refl _ _⟩
  refine TR.val2 (v := .slice (some ⟨g, 0, none⟩) m c) _ (by simp only [List.getElem?_toArray, List.getElem?_cons_succ, List.getElem?_cons_zero]; rfl) ?_ ?_ ?_ ?_ ?_
  (focus rfl)
  (focus (intro W _; go_simp))
  (focus exact fun _ _ _ h => h)
  (focus exact hS)
  simp only [Act.put, List.setIfInBounds_toArray, List.set_cons_zero]
  refine TR.done ?_
  have r1 : (m : Int) ≤ ((m + 1 : Nat) : Int) := by omega
  have r2 : m + 1 ≤ c := hnc
  have r3 : m ≤ m + 1 := by omega
  go_wp2_with (first
    | ((
        refine wpList_clear_own rfl (.tmp 31) 25 rfl base c g m 1 2 56 (.agg #[.string ⟨#[]⟩, .slice none 0 0]) _ _ _ rfl (fun _ => rfl) Try.underlying25 Try.zeroValue56 rfl (by omega) (by decide) O1.out (by omega) ?_
        intro w2 hown2 hg2 _))
    | fail)
  go_ret
  have G3 := G2.out.trans hg2
  exact ⟨rfl, hown2, G3⟩
theorem info_I : (Try.prog.info? 3).map (fun i => (i.zero, i.size, i.bytes)) = some (some (.int .i64 0), 1, 8) := by kernel_rfl
set_option maxRecDepth 100000 in
set_option maxHeartbeats 16000000 in
theorem insertI_v (base : Nat) (A : Option Addr) (n c i gv : Nat) (xs vs : List Value) (w : World) (h : w.ownsRow base 3 1 (.slice A n c) n xs) (h1 : ∀ u ∈ xs, u.oneCell' = true) (hi : i ≤ n) (hn : n ≤ 1000000) (hb : base ≤ w.heap.size)
    (hv : w.heap[gv]? = some (.cells vs.toArray 3 (0, 0))) (hvl : vs.length = 1) (hv1 : ∀ u ∈ vs, u.oneCell' = true) (hgv : (Value.slice A n c).ownBlock ≠ some gv) :
    Calls Try.prog 48 #[.slice A n c, .int .i64 (i : Int), .slice (some ⟨gv, 0, none⟩) 1 1] w fun e w' => ∃ A' c', e = .returned (.slice A' (n + 1) c') ∧
      w'.ownsRow base 3 1 (.slice A' (n + 1) c') (n + 1) (xs.take (i * 1) ++ vs ++ xs.drop (i * 1)) ∧ w.grownBy w' (Value.slice A n c).ownBlock := by
  have H := Lib.hid h
  have HXL := Lib.hid h.1
  have HV := Lib.hid hv
  have HVL := Lib.hid hvl
  have HV1 := Lib.hid hv1
  have H1 := Lib.hid h1
  have HGV := Lib.hid hgv
  have HZ := Lib.hid (show (Try.prog.info? 3).map (·.size) = some 1 by kernel_rfl)
  have hnc : n ≤ c := by
    rcases h.2 with ⟨hh, h0⟩ | ⟨g, cap', cur, hh, _, _, h2, _⟩
    · simp only [Value.slice.injEq] at hh; omega
    · simp only [Value.slice.injEq] at hh; omega
  have hcm : c ≤ 9223372036854775807 := by
    rcases h.2 with ⟨hh, h0⟩ | ⟨g, cap', cur, hh, _, _, _, h2, _⟩
    · simp only [Value.slice.injEq] at hh; omega
    · simp only [Value.slice.injEq, maxLen] at hh h2; omega
  have hgl : gv < w.heap.size := (Array.getElem?_eq_some_iff.1 hv).1
  have HVC := Lib.hid (show ∀ V : World, V.heap[gv]? = w.heap[gv]? → ∀ j u, vs[j]? = some u → V.cell? ((⟨gv, 0, none⟩ : Addr).add j) = some u from fun V hV j u hu => by
    rw [add_lit2, Nat.zero_add, cell_of_row _ _ j _ _ _ (hV.trans hv)]
    simpa using hu)
  obtain ⟨i0, hi0, hz0, hz1, hz2⟩ := info_parts info_I
  clear h hv hvl hv1 h1 hgv
  have k0 : (0 : Int) ≤ (i : Int) := by omega
  have k1 : i ≤ c := by omega
  go_enter Try.func48, Try.ntmps48
  by_cases hin : i = n
  · subst hin
    have e2 := Lib.hid (show xs.take (i * 1) = xs from List.take_of_length_le (by rw [HXL.out]; exact Nat.le_refl _))
    have e3 := Lib.hid (show xs.drop (i * 1) = [] from List.drop_of_length_le (by rw [HXL.out]; exact Nat.le_refl _))
    by_cases hci : c = i
    · subst hci
      go_wp2_with (first
        | (refine wpList_append_any w rfl (.tmp 23) (.tmp 24) 35 rfl base 3 i0 _ 1 8 Try.underlying35 hi0 hz0 hz1 hz2 rfl (by decide) (.slice A _ _) _ xs rfl H.out (gv + 1) (some ⟨gv, 0, none⟩) 1 1 vs rfl ⟨by rw [HVL.out], fun _ => ⟨_, rfl, Nat.lt_succ_self _, HVC.out w rfl⟩⟩ HV1.out (by simp only [maxLen]; omega) (by omega) hb ?_
           intro v' w1 ho1 hg1 _
           obtain ⟨A1, c1, rfl, _⟩ := own_shape ho1)
        | fail)
      have HO1 := Lib.hid ho1
      have HG1 := Lib.hid hg1
      clear ho1 hg1
      go_ret
      exact ⟨A1, c1, rfl, by rw [e2.out, e3.out, List.append_nil]; exact HO1.out, HG1.out⟩
    go_wp2_with (first
      | (refine wpList_append_any w rfl (.tmp 23) (.tmp 24) 35 rfl base 3 i0 _ 1 8 Try.underlying35 hi0 hz0 hz1 hz2 rfl (by decide) (.slice A _ _) _ xs rfl H.out (gv + 1) (some ⟨gv, 0, none⟩) 1 1 vs rfl ⟨by rw [HVL.out], fun _ => ⟨_, rfl, Nat.lt_succ_self _, HVC.out w rfl⟩⟩ HV1.out (by simp only [maxLen]; omega) (by omega) hb ?_
         intro v' w1 ho1 hg1 _
         obtain ⟨A1, c1, rfl, _⟩ := own_shape ho1)
      | fail)
    have HO1 := Lib.hid ho1
    have HG1 := Lib.hid hg1
    clear ho1 hg1
    go_ret
    exact ⟨A1, c1, rfl, by rw [e2.out, e3.out, List.append_nil]; exact HO1.out, HG1.out⟩
  have hlt : i < n := by omega
  have e1 : ((i : Int) == (n : Int)) = false := beq_eq_false_iff_ne.2 (by omega)
  clear hin
  obtain ⟨g, rfl⟩ := own_some H.out (by omega)
  obtain ⟨cur, hbg, hg, _, _, hcs, htk⟩ := own_block H.out
  have HG := Lib.hid hg
  have HTK := Lib.hid htk
  have HCS := Lib.hid hcs
  have hgg : g < w.heap.size := (Array.getElem?_eq_some_iff.1 hg).1
  have hne : gv ≠ g := fun e => HGV.out (by rw [e]; rfl)
  have HOC := Lib.hid (show ∀ V : World, V.heap[g]? = w.heap[g]? → ∀ j u, (xs.drop (i * 1))[j]? = some u → V.cell? ((⟨g, i, none⟩ : Addr).add j) = some u from fun V hV j u hu => by
    rw [add_lit2, cell_of_row _ _ _ _ _ _ (hV.trans hg)]
    have h := take_shift htk hu
    rw [Array.getElem?_toList] at h
    rw [Nat.mul_one] at h
    exact h)
  have HDL := Lib.hid (show (xs.drop (i * 1)).length = (n - i) * 1 by rw [List.length_drop, HXL.out, Nat.sub_mul])
  have HTL := Lib.hid (show (xs.take (i * 1)).length = i * 1 by rw [List.length_take, HXL.out]; exact Nat.min_eq_left (Nat.mul_le_mul_right _ hi))
  have HD1 := Lib.hid (show ∀ u ∈ xs.drop (i * 1), u.oneCell' = true from fun u hu => H1.out u (List.mem_of_mem_drop hu))
  have k2 : ¬ (c = i) := by omega
  clear hg htk hcs
  have e2 : IntKind.i64.wrap ((n : Int) + 1) = (n : Int) + 1 := IntWalk.i64_in _ (by omega)
  by_cases hroom : c < n + 1
  · have d1 : decide ((c : Int) < (n : Int) + 1) = true := decide_eq_true (by omega)
    have d2 : decide (c < n + 1) = true := decide_eq_true (by omega)
    have e3 : IntKind.i64.wrap ((n : Int) + 1 - (i : Int)) = ((n + 1 - i : Nat) : Int) := by rw [IntWalk.i64_in _ (by omega)]; omega
    obtain ⟨G, Z, hG1, hG2, hZL, hrun⟩ := run_append_zeros_own (P := Try.prog) w 35 3 35 3 i0 (.int .i64 0) 1 Try.underlying35 Try.underlying3 hi0 hz0 hz1 rfl (by decide) (by omega) base g n c i xs H.out hlt hn hroom
    simp only [maxLen] at hG2
    obtain ⟨TT, hTT⟩ : ∃ TT, xs.take (i * 1) = TT := ⟨_, rfl⟩
    rw [hTT] at hrun
    have HTT := Lib.hid hTT
    have HTL := Lib.hid (show TT.length = i * 1 by rw [← hTT]; exact HTL.out)
    clear hTT
    have HRUN := Lib.hid hrun
    have HZL := Lib.hid hZL
    clear hrun hZL
    have X1 := Lib.hid (show (w.alloc (.cells (TT ++ Z).toArray 3)).drew.heap[w.heap.size]? = some (.cells (TT ++ Z).toArray 3 (0, 0)) from heap_alloc_new w _)
    have hz1' : (w.alloc (.cells (TT ++ Z).toArray 3)).drew.heap.size = w.heap.size + 1 := by simp [World.drew]
    have B1 := Lib.hid (show Below w.heap.size w (w.alloc (.cells (TT ++ Z).toArray 3)).drew from ((Below.refl w.heap.size w).alloc (Nat.le_refl _) _).drew)
    have f1 : ¬ (G = i) := by omega
    have f2 : ¬ (G = i + 1) := by omega
    have f3 : i ≤ n + 1 := by omega
    have f4 : i + 1 ≤ n + 1 := by omega
    have f5 : (i : Int) + 1 ≤ (n : Int) + 1 := by omega
    have f6 : (0 : Int) ≤ (i : Int) + 1 := by omega
    have f7 : ((i : Int) + 1).toNat = i + 1 := by omega
    have f8 : i ≤ G := by omega
    have f9 : i + 1 ≤ G := by omega
    go_upto_region 10 with (at_builtin; go_loud (refine Lib.wpList_append_run w rfl _ _ 35 3 rfl _ _ rfl rfl _ _ HRUN.out ?_))
    generalize (w.alloc (.cells (TT ++ Z).toArray 3)).drew = W1 at *
    obtain ⟨cs1, hcs1⟩ : ∃ cs1 : List Value, cs1 = (TT ++ Z).take (i * 1) ++ vs ++ (TT ++ Z).drop (i * 1 + 1) := ⟨_, rfl⟩
    have hlen0 : (TT ++ Z).length = G * 1 := by rw [List.length_append, HTL.out, HZL.out, ← Nat.add_mul]; congr 1; omega
    have hm1 : (i + 1) * 1 ≤ G * 1 := Nat.mul_le_mul_right _ f9
    have X2 := Lib.hid (show (W1.setRow w.heap.size cs1.toArray).heap[w.heap.size]? = some (.cells cs1.toArray 3 (0, 0)) from setRow_heap _ _ _ _ _ _ X1.out)
    have B2 := Lib.hid (below_setRow B1.out (Nat.le_refl _) cs1.toArray)
    have HR1 := Lib.hid (show ∀ dC, (Builtin.copy_ #[35, 35] 3 #[.slice (some ⟨w.heap.size, i, none⟩) (n + 1 - i) dC, .slice (some ⟨gv, 0, none⟩) 1 1]).run Try.prog W1 = .ok (goInt 1) (W1.setRow w.heap.size cs1.toArray) from fun dC => by
      have h := run_copy_seg (P := Try.prog) W1 35 35 3 3 1 w.heap.size (i) (n + 1 - i) dC ⟨gv, 0, none⟩ 1 1 1 _ 3 vs Try.underlying35 HZ.out X1.out (by show min _ _ = _; omega) (by rw [HVL.out]) (HVC.out W1 (B1.out.block gv hgl)) (by rw [HVL.out, List.size_toArray, hlen0]; omega) HV1.out
      rw [h, hcs1, HVL.out]
      simp)
    go_upto_region 11 with (first | (refine wpList_copy_run W1 rfl (.tmp 43) (.tmp 44) 35 35 rfl _ _ rfl rfl (HR1.out _) ?_) | fail)
    have hlen1 : cs1.length = G * 1 := by rw [hcs1, seg_len (by rw [hlen0]; omega) HVL.out, hlen0]
    have HCS1 := Lib.hid hcs1
    have hgs : w.heap.size < (W1.setRow w.heap.size cs1.toArray).heap.size := by simp [World.setRow]; omega
    generalize W1.setRow w.heap.size cs1.toArray = W2 at *
    clear HR1 HRUN X1 hcs1
    obtain ⟨cs2, hcs2⟩ : ∃ cs2 : List Value, cs2 = cs1.take (i * 1 + 1) ++ xs.drop (i * 1) ++ cs1.drop (i * 1 + 1 + (n - i) * 1) := ⟨_, rfl⟩
    have hm2 : i * 1 + 1 + (n - i) * 1 = (n + 1) * 1 := by rw [← Nat.succ_mul, ← Nat.add_mul]; congr 1; omega
    have hm3 : (n + 1) * 1 ≤ G * 1 := Nat.mul_le_mul_right _ hG1
    have X3 := Lib.hid (fun V (hV : V.heap[w.heap.size]? = W2.heap[w.heap.size]?) => setRow_heap V w.heap.size _ cs2.toArray _ _ (hV.trans X2.out))
    have HR2 := Lib.hid (show ∀ V : World, V.heap[w.heap.size]? = W2.heap[w.heap.size]? → V.heap[g]? = w.heap[g]? → ∀ dL dC sC, n - i ≤ dL → dL ≤ n - i → (Builtin.copy_ #[35, 35] 3 #[.slice (some ⟨w.heap.size, i + 1, none⟩) dL dC, .slice (some ⟨g, i, none⟩) (n - i) sC]).run Try.prog V = .ok (goInt (n - i : Nat)) (V.setRow w.heap.size cs2.toArray) from fun V hV hVg dL dC sC hd1 hd2 => by
      have h := run_copy_seg (P := Try.prog) V 35 35 3 3 1 w.heap.size (i + 1) dL dC ⟨g, i, none⟩ (n - i) sC (n - i) _ 3 (xs.drop (i * 1)) Try.underlying35 HZ.out (hV.trans X2.out) (by show min _ _ = _; omega) HDL.out (HOC.out V hVg) (by rw [HDL.out, List.size_toArray, hlen1]; omega) HD1.out
      rw [h, hcs2, HDL.out]
      simp)
    refine wp_region_tree (SK.one 0 false <| .one 1 false <| .one 2 false <| .one 3 false <| .one 4 false <| .one 5 false <| .one 6 false <| .one 7 false <| .one 8 true .done) (fun V => Below 0 V V ∧ Below 0 V V) (by kernel_rfl) (by kernel_rfl) (by kernel_rfl) (by kernel_rfl) ?_
    have hS : Below 0 W2.drew W2.drew ∧ Below 0 W2.drew W2.drew := ⟨Below.refl _ _, Below.refl _ _⟩
    have q1 := HR2.out W2.drew rfl (B2.out.block g hgg)
    have q2 := X3.out W2.drew rfl
    have q3 := below_setRow (g := w.heap.size) (show Below w.heap.size w W2.drew from B2.out.drew) (Nat.le_refl _) cs2.toArray
    generalize W2.drew = W3 at *
    ((first | (refine TR.val2 (v := ?_) _ (by simp only [List.getElem?_toArray, List.getElem?_cons_zero]; rfl) ?_ ?_ ?_ ?_ ?_; rotate_left; (focus rfl); (focus (intro W hSW; (try dsimp only at hSW); (try (obtain ⟨hS1, hSW⟩ := hSW)); (try (obtain ⟨hS2, hSW⟩ := hSW)); (try (obtain ⟨hS3, hSW⟩ := hSW)); (try (obtain ⟨hS4, hSW⟩ := hSW)); (try (obtain ⟨hS5, hSW⟩ := hSW)); (try (obtain ⟨hS6, hSW⟩ := hSW)); (try (obtain ⟨hS7, hSW⟩ := hSW)); (try (obtain ⟨hS8, hSW⟩ := hSW)); go_simp; (try with_reducible rfl); done)); (focus exact fun _ _ _ h => h); (focus assumption)) | (refine TR.skip _ (by simp only [List.getElem?_toArray, List.getElem?_cons_zero]; rfl) ?_ ?_ ?_ ?_; (focus rfl); (focus exact fun _ _ _ h => h); (focus assumption))); simp only [Act.put, List.setIfInBounds_toArray, List.set_cons_zero, List.set_cons_succ])
    iterate 2 ((first | (refine TR.val2 (v := ?_) _ (by simp only [List.getElem?_toArray, List.getElem?_cons_succ, List.getElem?_cons_zero]; rfl) ?_ ?_ ?_ ?_ ?_; rotate_left; (focus rfl); (focus (intro W hSW; (try dsimp only at hSW); (try (obtain ⟨hS1, hSW⟩ := hSW)); (try (obtain ⟨hS2, hSW⟩ := hSW)); (try (obtain ⟨hS3, hSW⟩ := hSW)); (try (obtain ⟨hS4, hSW⟩ := hSW)); (try (obtain ⟨hS5, hSW⟩ := hSW)); (try (obtain ⟨hS6, hSW⟩ := hSW)); (try (obtain ⟨hS7, hSW⟩ := hSW)); (try (obtain ⟨hS8, hSW⟩ := hSW)); go_simp; (try with_reducible rfl); done)); (focus exact fun _ _ _ h => h); (focus assumption)) | (refine TR.skip _ (by simp only [List.getElem?_toArray, List.getElem?_cons_succ, List.getElem?_cons_zero]; rfl) ?_ ?_ ?_ ?_; (focus rfl); (focus exact fun _ _ _ h => h); (focus assumption))); simp only [Act.put, List.setIfInBounds_toArray, List.set_cons_zero, List.set_cons_succ])
    have hwr : IntKind.i64.wrap ((i : Int) + 1) = (i : Int) + 1 := IntWalk.i64_in _ (by omega)
    iterate 2 ((first | (refine TR.val2 (v := ?_) _ (by simp only [List.getElem?_toArray, List.getElem?_cons_succ, List.getElem?_cons_zero]; rfl) ?_ ?_ ?_ ?_ ?_; rotate_left; (focus rfl); (focus (intro W hSW; (try dsimp only at hSW); (try (obtain ⟨hS1, hSW⟩ := hSW)); (try (obtain ⟨hS2, hSW⟩ := hSW)); (try (obtain ⟨hS3, hSW⟩ := hSW)); (try (obtain ⟨hS4, hSW⟩ := hSW)); (try (obtain ⟨hS5, hSW⟩ := hSW)); (try (obtain ⟨hS6, hSW⟩ := hSW)); (try (obtain ⟨hS7, hSW⟩ := hSW)); (try (obtain ⟨hS8, hSW⟩ := hSW)); go_simp; (try with_reducible rfl); done)); (focus exact fun _ _ _ h => h); (focus assumption)) | (refine TR.skip _ (by simp only [List.getElem?_toArray, List.getElem?_cons_succ, List.getElem?_cons_zero]; rfl) ?_ ?_ ?_ ?_; (focus rfl); (focus exact fun _ _ _ h => h); (focus assumption))); simp only [Act.put, List.setIfInBounds_toArray, List.set_cons_zero, List.set_cons_succ])
    clear hwr
    iterate 3 ((first | (refine TR.val2 (v := ?_) _ (by simp only [List.getElem?_toArray, List.getElem?_cons_succ, List.getElem?_cons_zero]; rfl) ?_ ?_ ?_ ?_ ?_; rotate_left; (focus rfl); (focus (intro W hSW; (try dsimp only at hSW); (try (obtain ⟨hS1, hSW⟩ := hSW)); (try (obtain ⟨hS2, hSW⟩ := hSW)); (try (obtain ⟨hS3, hSW⟩ := hSW)); (try (obtain ⟨hS4, hSW⟩ := hSW)); (try (obtain ⟨hS5, hSW⟩ := hSW)); (try (obtain ⟨hS6, hSW⟩ := hSW)); (try (obtain ⟨hS7, hSW⟩ := hSW)); (try (obtain ⟨hS8, hSW⟩ := hSW)); go_simp; (try with_reducible rfl); done)); (focus exact fun _ _ _ h => h); (focus assumption)) | (refine TR.skip _ (by simp only [List.getElem?_toArray, List.getElem?_cons_succ, List.getElem?_cons_zero]; rfl) ?_ ?_ ?_ ?_; (focus rfl); (focus exact fun _ _ _ h => h); (focus assumption))); simp only [Act.put, List.setIfInBounds_toArray, List.set_cons_zero, List.set_cons_succ])
    refine TR.eff _ (by simp only [List.getElem?_toArray, List.getElem?_cons_succ, List.getElem?_cons_zero]; rfl) (by rfl) (fun K hK => ?_)
    refine wp_copy_run W3 _ _ 35 35 rfl _ _ rfl rfl (q1 _ _ _ (by omega) (by omega)) ?_
    refine hK.out _ _ ⟨Below.refl _ _, Below.refl _ _⟩ ?_
    refine TR.done ?_
    have hcs2l : cs2.length = G * 1 := by rw [hcs2, seg_len (V := xs.drop (i * 1)) (a := i * 1 + 1) (k := (n - i) * 1) (by rw [hlen1]; omega) HDL.out, hlen1]
    have HO := Lib.hid (show (W3.setRow w.heap.size cs2.toArray).ownsRow base 3 1 (.slice (some ⟨w.heap.size, 0, none⟩) (n + 1) G) (n + 1) (TT ++ vs ++ xs.drop (i * 1)) from by
      refine ⟨by rw [List.length_append, List.length_append, HTL.out, HVL.out, HDL.out]; exact hm2, .inr ⟨w.heap.size, G, _, rfl, hb, q2, hG1, by simp only [maxLen]; omega, by rw [List.size_toArray, hcs2l], ?_⟩⟩
      rw [List.toList_toArray, hcs2, ← hm2, HCS1.out]
      exact seg2 (List.take_left' HTL.out) HTL.out HVL.out HDL.out)
    have HB3 := Lib.hid q3
    clear q1 q2 q3 hS hK
    generalize W3.setRow w.heap.size cs2.toArray = W4 at *
    go_wp2_with fail
    go_ret
    exact ⟨_, G, rfl, by rw [HTT.out]; exact HO.out, ⟨HB3.out.os, HB3.out.tape, HB3.out.output, HB3.out.size, fun j hj _ => HB3.out.block j hj⟩⟩
  · have hr2 : n + 1 ≤ c := by omega
    have d1 : decide ((c : Int) < (n : Int) + 1) = false := decide_eq_false (by omega)
    have d2 : decide (c < n + 1) = false := decide_eq_false (by omega)
    have f2 : ¬ (c = i + 1) := by omega
    have f4 : i + 1 ≤ n + 1 := by omega
    have f5 : (i : Int) + 1 ≤ (n : Int) + 1 := by omega
    have f6 : (0 : Int) ≤ (i : Int) + 1 := by omega
    have f7 : ((i : Int) + 1).toNat = i + 1 := by omega
    have f9 : i + 1 ≤ c := by omega
    have g1 : (0 : Int) ≤ (n : Int) + 1 := by omega
    have g2 : ((n : Int) + 1).toNat = n + 1 := by omega
    have g3 : (n : Int) + 1 ≤ (c : Int) := by omega
    have hwr : IntKind.i64.wrap ((i : Int) + 1) = (i : Int) + 1 := IntWalk.i64_in _ (by omega)
    have f10 : i ≤ n + 1 := by omega
    have f11 : (i : Int) ≤ (n : Int) + 1 := by omega
    go_upto_region 14 with fail
    go_wp2_with fail
    rw [run_callFunc_extern Try.func67 (by kernel_rfl) (by kernel_rfl) (by kernel_rfl) (e := Extern.SlicesOverlaps.overlaps #[35, 35] #[4]) (by kernel_rfl),
      Lib.run_overlaps_apart w 35 4 3 Try.underlying35 1 (fun V => by rw [run_sizeOf V hi0, show Try.prog.cellsOf 3 = 1 by kernel_rfl]) ⟨gv, 0, none⟩ ⟨g, i + 1, none⟩ _ _ _ _ hne 3 3 1 (c * 1) (by unfold World.shape?; rw [HV.out]; simp [HVL.out]) (by unfold World.shape?; rw [HG.out]; simp [HCS.out]) (by omega) (by unfold World.frozen?; rw [HV.out]; simp) (by unfold World.frozen?; rw [HV.out]; simp)]
    simp only [Result.andThen]
    rw [Oper.upon_value]
    clear hwr
    obtain ⟨cs1, hcs1⟩ : ∃ cs1 : List Value, cs1 = cur.toList.take (i * 1 + 1) ++ xs.drop (i * 1) ++ cur.toList.drop (i * 1 + 1 + (n - i) * 1) := ⟨_, rfl⟩
    have hm2 : i * 1 + 1 + (n - i) * 1 = (n + 1) * 1 := by rw [← Nat.succ_mul, ← Nat.add_mul]; congr 1; omega
    have hm3 : (n + 1) * 1 ≤ c * 1 := Nat.mul_le_mul_right _ hr2
    have hcl : cur.toList.length = c * 1 := by rw [Array.length_toList, HCS.out]
    have hlen1 : cs1.length = c * 1 := by rw [hcs1, seg_len (V := xs.drop (i * 1)) (a := i * 1 + 1) (k := (n - i) * 1) (by rw [hcl]; omega) HDL.out, hcl]
    have HR1 := Lib.hid (show ∀ V : World, V.heap[g]? = w.heap[g]? → ∀ dL dC sL sC, n - i ≤ dL → dL ≤ n - i → n - i ≤ sL → (Builtin.copy_ #[35, 35] 3 #[.slice (some ⟨g, i + 1, none⟩) dL dC, .slice (some ⟨g, i, none⟩) sL sC]).run Try.prog V = .ok (goInt (n - i : Nat)) (V.setRow g cs1.toArray) from fun V hVg dL dC sL sC hd1 hd2 hd3 => by
      have h := run_copy_seg (P := Try.prog) V 35 35 3 3 1 g (i + 1) dL dC ⟨g, i, none⟩ sL sC (n - i) _ 3 (xs.drop (i * 1)) Try.underlying35 HZ.out (hVg.trans HG.out) (by show min _ _ = _; omega) HDL.out (HOC.out V hVg) (by rw [HDL.out, HCS.out]; omega) HD1.out
      rw [h, hcs1, HDL.out]
      simp)
    obtain ⟨cs2, hcs2⟩ : ∃ cs2 : List Value, cs2 = cs1.take (i * 1) ++ vs ++ cs1.drop (i * 1 + 1) := ⟨_, rfl⟩
    have HR2 := Lib.hid (show ∀ V : World, V.heap[g]? = some (.cells cs1.toArray 3 (0, 0)) → V.heap[gv]? = w.heap[gv]? → ∀ dC, (Builtin.copy_ #[35, 35] 3 #[.slice (some ⟨g, i, none⟩) (n + 1 - i) dC, .slice (some ⟨gv, 0, none⟩) 1 1]).run Try.prog V = .ok (goInt 1) (V.setRow g cs2.toArray) from fun V hV hVv dC => by
      have h := run_copy_seg (P := Try.prog) V 35 35 3 3 1 g (i) (n + 1 - i) dC ⟨gv, 0, none⟩ 1 1 1 _ 3 vs Try.underlying35 HZ.out hV (by show min _ _ = _; omega) (by rw [HVL.out]) (HVC.out V hVv) (by rw [HVL.out, List.size_toArray, hlen1]; omega) HV1.out
      rw [h, hcs2, HVL.out]
      simp)
    have hcs2l : cs2.length = c * 1 := by rw [hcs2, seg_len (by rw [hlen1]; omega) HVL.out, hlen1]
    have HTA := Lib.hid (show cs2.take ((n + 1) * 1) = xs.take (i * 1) ++ vs ++ xs.drop (i * 1) by
      have h1 : xs.take (i * 1) = cur.toList.take (i * 1) := by rw [← HTK.out, List.take_take, Nat.min_eq_left (Nat.mul_le_mul_right _ hi)]
      rw [hcs2, hcs1, ← hm2, h1]
      exact seg3 (by rw [hcl]; omega) HVL.out HDL.out)
    clear hcs1 hcs2
    go_upto_region 15 with fail
    refine wp_region_tree (SK.one 0 false <| .one 1 false <| .one 2 false <| .one 3 false <| .one 4 false <| .one 5 false <| .one 6 false <| .one 7 false <| .one 8 true .done) (fun V => Below 0 V V ∧ Below 0 V V) (by kernel_rfl) (by kernel_rfl) (by kernel_rfl) (by kernel_rfl) ?_
    have hS : Below 0 w.drew w.drew ∧ Below 0 w.drew w.drew := ⟨Below.refl _ _, Below.refl _ _⟩
    have q1 := HR1.out w.drew rfl
    have q2 : (w.drew.setRow g cs1.toArray).heap[g]? = some (.cells cs1.toArray 3 (0, 0)) := setRow_heap _ _ _ _ _ _ HG.out
    have q3 : (w.drew.setRow g cs1.toArray).heap[gv]? = w.heap[gv]? := setRow_other _ _ _ _ hne
    have q4 : w.grownBy (w.drew.setRow g cs1.toArray) (some g) := grown_setRow (show w.grownBy w.drew (some g) from ⟨rfl, rfl, rfl, Nat.le_refl _, fun _ _ _ => rfl⟩) _
    generalize w.drew = W3 at *
    ((first | (refine TR.val2 (v := ?_) _ (by simp only [List.getElem?_toArray, List.getElem?_cons_zero]; rfl) ?_ ?_ ?_ ?_ ?_; rotate_left; (focus rfl); (focus (intro W hSW; (try dsimp only at hSW); (try (obtain ⟨hS1, hSW⟩ := hSW)); (try (obtain ⟨hS2, hSW⟩ := hSW)); (try (obtain ⟨hS3, hSW⟩ := hSW)); (try (obtain ⟨hS4, hSW⟩ := hSW)); (try (obtain ⟨hS5, hSW⟩ := hSW)); (try (obtain ⟨hS6, hSW⟩ := hSW)); (try (obtain ⟨hS7, hSW⟩ := hSW)); (try (obtain ⟨hS8, hSW⟩ := hSW)); go_simp; (try with_reducible rfl); done)); (focus exact fun _ _ _ h => h); (focus assumption)) | (refine TR.skip _ (by simp only [List.getElem?_toArray, List.getElem?_cons_zero]; rfl) ?_ ?_ ?_ ?_; (focus rfl); (focus exact fun _ _ _ h => h); (focus assumption))); simp only [Act.put, List.setIfInBounds_toArray, List.set_cons_zero, List.set_cons_succ])
    iterate 2 ((first | (refine TR.val2 (v := ?_) _ (by simp only [List.getElem?_toArray, List.getElem?_cons_succ, List.getElem?_cons_zero]; rfl) ?_ ?_ ?_ ?_ ?_; rotate_left; (focus rfl); (focus (intro W hSW; (try dsimp only at hSW); (try (obtain ⟨hS1, hSW⟩ := hSW)); (try (obtain ⟨hS2, hSW⟩ := hSW)); (try (obtain ⟨hS3, hSW⟩ := hSW)); (try (obtain ⟨hS4, hSW⟩ := hSW)); (try (obtain ⟨hS5, hSW⟩ := hSW)); (try (obtain ⟨hS6, hSW⟩ := hSW)); (try (obtain ⟨hS7, hSW⟩ := hSW)); (try (obtain ⟨hS8, hSW⟩ := hSW)); go_simp; (try with_reducible rfl); done)); (focus exact fun _ _ _ h => h); (focus assumption)) | (refine TR.skip _ (by simp only [List.getElem?_toArray, List.getElem?_cons_succ, List.getElem?_cons_zero]; rfl) ?_ ?_ ?_ ?_; (focus rfl); (focus exact fun _ _ _ h => h); (focus assumption))); simp only [Act.put, List.setIfInBounds_toArray, List.set_cons_zero, List.set_cons_succ])
    have hwr : IntKind.i64.wrap ((i : Int) + 1) = (i : Int) + 1 := IntWalk.i64_in _ (by omega)
    iterate 2 ((first | (refine TR.val2 (v := ?_) _ (by simp only [List.getElem?_toArray, List.getElem?_cons_succ, List.getElem?_cons_zero]; rfl) ?_ ?_ ?_ ?_ ?_; rotate_left; (focus rfl); (focus (intro W hSW; (try dsimp only at hSW); (try (obtain ⟨hS1, hSW⟩ := hSW)); (try (obtain ⟨hS2, hSW⟩ := hSW)); (try (obtain ⟨hS3, hSW⟩ := hSW)); (try (obtain ⟨hS4, hSW⟩ := hSW)); (try (obtain ⟨hS5, hSW⟩ := hSW)); (try (obtain ⟨hS6, hSW⟩ := hSW)); (try (obtain ⟨hS7, hSW⟩ := hSW)); (try (obtain ⟨hS8, hSW⟩ := hSW)); go_simp; (try with_reducible rfl); done)); (focus exact fun _ _ _ h => h); (focus assumption)) | (refine TR.skip _ (by simp only [List.getElem?_toArray, List.getElem?_cons_succ, List.getElem?_cons_zero]; rfl) ?_ ?_ ?_ ?_; (focus rfl); (focus exact fun _ _ _ h => h); (focus assumption))); simp only [Act.put, List.setIfInBounds_toArray, List.set_cons_zero, List.set_cons_succ])
    clear hwr
    iterate 3 ((first | (refine TR.val2 (v := ?_) _ (by simp only [List.getElem?_toArray, List.getElem?_cons_succ, List.getElem?_cons_zero]; rfl) ?_ ?_ ?_ ?_ ?_; rotate_left; (focus rfl); (focus (intro W hSW; (try dsimp only at hSW); (try (obtain ⟨hS1, hSW⟩ := hSW)); (try (obtain ⟨hS2, hSW⟩ := hSW)); (try (obtain ⟨hS3, hSW⟩ := hSW)); (try (obtain ⟨hS4, hSW⟩ := hSW)); (try (obtain ⟨hS5, hSW⟩ := hSW)); (try (obtain ⟨hS6, hSW⟩ := hSW)); (try (obtain ⟨hS7, hSW⟩ := hSW)); (try (obtain ⟨hS8, hSW⟩ := hSW)); go_simp; (try with_reducible rfl); done)); (focus exact fun _ _ _ h => h); (focus assumption)) | (refine TR.skip _ (by simp only [List.getElem?_toArray, List.getElem?_cons_succ, List.getElem?_cons_zero]; rfl) ?_ ?_ ?_ ?_; (focus rfl); (focus exact fun _ _ _ h => h); (focus assumption))); simp only [Act.put, List.setIfInBounds_toArray, List.set_cons_zero, List.set_cons_succ])
    refine TR.eff _ (by simp only [List.getElem?_toArray, List.getElem?_cons_succ, List.getElem?_cons_zero]; rfl) (by rfl) (fun K hK => ?_)
    refine wp_copy_run W3 _ _ 35 35 rfl _ _ rfl rfl (q1 _ _ _ _ (by omega) (by omega) (by omega)) ?_
    refine hK.out _ _ ⟨Below.refl _ _, Below.refl _ _⟩ ?_
    refine TR.done ?_
    have HR3 := Lib.hid (HR2.out _ q2 q3)
    have q5 : ((W3.setRow g cs1.toArray).setRow g cs2.toArray).heap[g]? = some (.cells cs2.toArray 3 (0, 0)) := setRow_heap _ _ _ _ _ _ q2
    have q6 := Lib.hid (grown_setRow q4 cs2.toArray)
    have HO := Lib.hid (show ((W3.setRow g cs1.toArray).setRow g cs2.toArray).ownsRow base 3 1 (.slice (some ⟨g, 0, none⟩) (n + 1) c) (n + 1) (xs.take (i * 1) ++ vs ++ xs.drop (i * 1)) from
      ⟨by rw [List.length_append, List.length_append, HTL.out, HVL.out, HDL.out]; exact hm2, .inr ⟨g, c, _, rfl, hbg, q5, hr2, by simp only [maxLen]; omega, by rw [List.size_toArray, hcs2l], HTA.out⟩⟩)
    clear q1 q2 q3 q4 q5 hS hK HR1 HR2
    generalize W3.setRow g cs1.toArray = W4 at *
    go_wp2_with (first | (refine wpList_copy_run W4 rfl (.tmp 80) (.tmp 81) 35 35 rfl _ _ rfl rfl (HR3.out _) ?_) | fail)
    go_ret
    exact ⟨_, c, rfl, HO.out, q6.out⟩
set_option maxRecDepth 100000 in
set_option maxHeartbeats 8000000 in
theorem deleteI_v (base g n c k : Nat) (xs : List Value) (w : World) (h : w.ownsRow base 3 1 (.slice (some ⟨g, 0, none⟩) n c) n xs) (h1 : ∀ u ∈ xs, u.oneCell' = true) (hk : k < n) (hn : n ≤ 1000000) :
    Calls Try.prog 47 #[.slice (some ⟨g, 0, none⟩) n c, .int .i64 (k : Int), .int .i64 ((k : Int) + 1)] w fun e w' => e = .returned (.slice (some ⟨g, 0, none⟩) (n - 1) c) ∧
      w'.ownsRow base 3 1 (.slice (some ⟨g, 0, none⟩) (n - 1) c) (n - 1) (xs.take (k * 1) ++ xs.drop ((k + 1) * 1)) ∧ w.grownBy w' (some g) := by
  obtain ⟨cur, _, _, hnc, _, _, _⟩ := own_block h
  have H := Lib.hid h
  have HXL := Lib.hid h.1
  have H1 := Lib.hid h1
  clear h h1
  have k0 : (0 : Int) ≤ (k : Int) := by omega
  have k1 : k + 1 ≤ n := hk
  have e1 : ((k : Int) == (k : Int) + 1) = false := by rw [beq_eq_false_iff_ne]; omega
  have t1 : ((k : Int) + 1).toNat = k + 1 := by omega
  have q0 : (0 : Int) ≤ (k : Int) + 1 := by omega
  have q1 : (k : Int) ≤ (k : Int) + 1 := by omega
  have q2 : (k : Int) + 1 ≤ (n : Int) := by omega
  have q3 : (k : Int) ≤ (c : Int) := by omega
  have q4 : k ≤ n := by omega
  have q5 : k ≤ c := by omega
  have q6 : k ≤ k + 1 := by omega
  go_enter Try.func47, Try.ntmps47
  go_upto_region 5 with fail
  refine wp_region_tree (SK.one 0 false <| .one 1 false <| .one 2 false <| .one 3 false <| .one 4 false <| .one 5 false <| .one 6 true <| .one 7 false .done) (fun V => Below 0 V V ∧ Below 0 V V) (by kernel_rfl) (by kernel_rfl) (by kernel_rfl) (by kernel_rfl) ?_
  have hS : Below 0 w.drew w.drew ∧ Below 0 w.drew w.drew := ⟨Below.refl _ _, Below.refl _ _⟩
  have HO := Lib.hid H.out.drew
  have G1 := Lib.hid (show w.grownBy w.drew (some g) from ⟨rfl, rfl, rfl, Nat.le_refl _, fun _ _ _ => rfl⟩)
  clear H
  generalize w.drew = V0 at *
  ((first | (refine TR.val2 (v := ?_) _ (by simp only [List.getElem?_toArray, List.getElem?_cons_zero]; rfl) ?_ ?_ ?_ ?_ ?_; rotate_left; (focus rfl); (focus (intro W hSW; (try dsimp only at hSW); (try (obtain ⟨hS1, hSW⟩ := hSW)); (try (obtain ⟨hS2, hSW⟩ := hSW)); (try (obtain ⟨hS3, hSW⟩ := hSW)); (try (obtain ⟨hS4, hSW⟩ := hSW)); (try (obtain ⟨hS5, hSW⟩ := hSW)); (try (obtain ⟨hS6, hSW⟩ := hSW)); (try (obtain ⟨hS7, hSW⟩ := hSW)); (try (obtain ⟨hS8, hSW⟩ := hSW)); go_simp; (try with_reducible rfl); done)); (focus exact fun _ _ _ h => h); (focus assumption)) | (refine TR.skip _ (by simp only [List.getElem?_toArray, List.getElem?_cons_zero]; rfl) ?_ ?_ ?_ ?_; (focus rfl); (focus exact fun _ _ _ h => h); (focus assumption))); simp only [Act.put, List.setIfInBounds_toArray, List.set_cons_zero, List.set_cons_succ])
  iterate 5 ((first | (refine TR.val2 (v := ?_) _ (by simp only [List.getElem?_toArray, List.getElem?_cons_succ, List.getElem?_cons_zero]; rfl) ?_ ?_ ?_ ?_ ?_; rotate_left; (focus rfl); (focus (intro W hSW; (try dsimp only at hSW); (try (obtain ⟨hS1, hSW⟩ := hSW)); (try (obtain ⟨hS2, hSW⟩ := hSW)); (try (obtain ⟨hS3, hSW⟩ := hSW)); (try (obtain ⟨hS4, hSW⟩ := hSW)); (try (obtain ⟨hS5, hSW⟩ := hSW)); (try (obtain ⟨hS6, hSW⟩ := hSW)); (try (obtain ⟨hS7, hSW⟩ := hSW)); (try (obtain ⟨hS8, hSW⟩ := hSW)); go_simp; (try with_reducible rfl); done)); (focus exact fun _ _ _ h => h); (focus assumption)) | (refine TR.skip _ (by simp only [List.getElem?_toArray, List.getElem?_cons_succ, List.getElem?_cons_zero]; rfl) ?_ ?_ ?_ ?_; (focus rfl); (focus exact fun _ _ _ h => h); (focus assumption))); simp only [Act.put, List.setIfInBounds_toArray, List.set_cons_zero, List.set_cons_succ])
  obtain ⟨ad, had, hcell⟩ : ∃ ad, (if c = k + 1 then some (⟨g, 0, none⟩ : Addr) else some ⟨g, k + 1, none⟩) = some ad ∧ ∀ j u, (xs.drop ((k + 1) * 1))[j]? = some u → V0.cell? (ad.add j) = some u := by
    by_cases hck : c = k + 1
    · refine ⟨_, by rw [if_pos hck], fun j u hu => ?_⟩
      have : xs.drop ((k + 1) * 1) = [] := List.drop_of_length_le (by rw [HXL.out]; exact Nat.mul_le_mul_right _ (by omega))
      rw [this] at hu
      simp at hu
    · refine ⟨_, by rw [if_neg hck], fun j u hu => ?_⟩
      rw [List.getElem?_drop] at hu
      have := HO.out.cells (g := g) rfl _ u hu
      rw [add_lit2, Nat.zero_add] at this
      rw [add_lit2]
      rw [Nat.mul_one] at this
      exact this
  have HC := Lib.hid hcell
  obtain ⟨m, rfl⟩ : ∃ m, n = m + 1 := ⟨n - 1, by omega⟩
  have hN1 : k + (m + 1 - (k + 1)) = m := by omega
  have HD := Lib.hid (own_head HO.out q4)
  clear hcell
  rw [had]
  obtain ⟨i0, hi, hz0, hz1, hz2⟩ := info_parts info_I
  refine TR.eff _ (by simp only [List.getElem?_toArray, List.getElem?_cons_succ, List.getElem?_cons_zero]; rfl) (by rfl) (fun K hK => ?_)
  refine wp_append_fits (.tmp 22) (.tmp 25) 35 rfl base 3 i0 1 Try.underlying35 hi hz1 g k c _ rfl HD.out ad (m + 1 - (k + 1)) _ (xs.drop ((k + 1) * 1)) rfl (by rw [List.length_drop, HXL.out, ← Nat.sub_mul]) HC.out (fun u hu => H1.out u (List.mem_of_mem_drop hu)) (by omega) ?_
  rw [hN1]
  intro w1 hown1 hg1
  have O1 := Lib.hid hown1
  have G2 := Lib.hid (G1.out.trans hg1)
  refine hK.out _ _ ⟨Below.refl _ _, Below.refl _ _⟩ ?_
  clear hK hown1 hg1 G1 HD HC had i0 hi hz0 hz1 hz2
  (try simp only [Act.put, List.setIfInBounds_toArray, List.set_cons_zero, List.set_cons_succ])
  have hS : Below 0 w1 w1 ∧ Below 0 w1 w1 := ⟨Below.refl _ _, Below.refl _ _⟩
  refine TR.val2 (v := .slice (some ⟨g, 0, none⟩) m c) _ (by simp only [List.getElem?_toArray, List.getElem?_cons_succ, List.getElem?_cons_zero]; rfl) ?_ ?_ ?_ ?_ ?_
  (focus rfl)
  (focus (intro W _; go_simp))
  (focus exact fun _ _ _ h => h)
  (focus exact hS)
  simp only [Act.put, List.setIfInBounds_toArray, List.set_cons_zero]
  refine TR.done ?_
  have r1 : (m : Int) ≤ ((m + 1 : Nat) : Int) := by omega
  have r2 : m + 1 ≤ c := hnc
  have r3 : m ≤ m + 1 := by omega
  go_wp2_with (first
    | ((
        refine wpList_clear_own rfl (.tmp 31) 35 rfl base c g m 1 1 3 (.int .i64 0) _ _ _ rfl (fun _ => by rw [Nat.mul_one]) Try.underlying35 Try.zeroValue3 rfl (by omega) (by decide) O1.out (by omega) ?_
        intro w2 hown2 hg2 _))
    | fail)
  go_ret
  have G3 := G2.out.trans hg2
  exact ⟨rfl, hown2, G3⟩
end Go.Proofs.Ytikegnnlmfidfaa
