/-
  Matrices: the reference's Parts.
-/
import Derived.Test.YtikegnnlmfidfaaMatLg
import Derived.Test.YtikegnnlmfidfaaMatR
namespace Go.Proofs.Ytikegnnlmfidfaa
open Go.RowKit
def mxz : List Value := [.int .i64 0, .slice none 0 0]
def byC (ms : List Mx) (o : Option Nat) : List Value := match o with
  | some i => match ms[i]? with
    | some m => m.cells
    | none => mxz
  | none => mxz
theorem byC_len (ms : List Mx) (o : Option Nat) : (byC ms o).length = 2 := by
  unfold byC
  split
  · split <;> rfl
  · rfl
/-- The array of matrices by their devices. -/
def byL (ms : List Mx) (os : Nat → Option Nat) : List Value := (List.range 17).flatMap fun j => byC ms (os j)
theorem byL_at {ms : List Mx} {os : Nat → Option Nat} {j i : Nat} (hj : j < 17) (hi : i < 2) : (byL ms os)[j * 2 + i]? = (byC ms (os j))[i]? :=
  flat_at (K := 2) (enc := fun j => byC ms (os j)) (fun _ => byC_len _ _) (List.range 17) (by rw [List.getElem?_range hj]) hi
theorem byL_len (ms : List Mx) (os : Nat → Option Nat) : (byL ms os).length = 34 := by
  unfold byL
  rw [flat_len (K := 2) (fun _ => byC_len _ _)]
  simp
theorem byL_set {ms : List Mx} {os os' : Nat → Option Nat} {q : Nat} (hq : q < 17) {vs : List Value} (h1 : byC ms (os' q) = vs) (h2 : ∀ j, j ≠ q → os' j = os j) : (byL ms os).take (q * 2) ++ vs ++ (byL ms os).drop (q * 2 + 2) = byL ms os' := by
  have e1 := flat_take (K := 2) (enc := fun j => byC ms (os j)) (fun _ => byC_len _ _) (List.range 17) q
  have e2 := flat_drop (K := 2) (enc := fun j => byC ms (os j)) (fun _ => byC_len _ _) (List.range 17) (q + 1)
  unfold byL
  rw [e1, show q * 2 + 2 = (q + 1) * 2 by omega, e2]
  have hr : List.range 17 = (List.range 17).take q ++ q :: (List.range 17).drop (q + 1) := by
    have h := List.drop_eq_getElem_cons (l := List.range 17) (i := q) (by simpa using hq)
    rw [List.getElem_range] at h
    rw [← h, List.take_append_drop]
  have hm : ∀ l : List Nat, q ∉ l → l.flatMap (fun j => byC ms (os' j)) = l.flatMap (fun j => byC ms (os j)) := fun l hl => by
    rw [List.flatMap_def, List.flatMap_def]
    congr 1
    refine List.map_congr_left fun j hj => ?_
    rw [h2 j (fun e => hl (e ▸ hj))]
  conv => rhs; rw [hr]
  rw [List.flatMap_append, List.flatMap_cons, h1, hm _ ?_, hm _ ?_, List.append_assoc]
  · intro h
    obtain ⟨i, hi⟩ := List.mem_iff_getElem?.1 h
    rw [List.getElem?_drop, List.getElem?_eq_some_iff] at hi
    obtain ⟨_, hi⟩ := hi
    rw [List.getElem_range] at hi
    omega
  · intro h
    obtain ⟨i, hi⟩ := List.mem_iff_getElem?.1 h
    rw [List.getElem?_take] at hi
    split at hi
    · rw [List.getElem?_eq_some_iff] at hi
      obtain ⟨_, hi⟩ := hi
      rw [List.getElem_range] at hi
      omega
    · cases hi
def isF (ms : List Mx) (f : ByteArray) (os : Nat → Option Nat) (j : Nat) : Bool := match os j with
  | some i => hasP ((ms.map Mx.p).getD i (0, [])) f
  | none => false
/-- Some cells of an array are written. -/
theorem wp_store_arr {o : Oper} {a : Act} {w : World} {K : Act → World → Prop} {Q : Exit → Act → World → Prop} (ty : TypeId) (x y : Operand) (ho : o.op = .store ty x y) (g k n : Nat) (t : TypeId) (L vs : List Value)
    (hx : a.eval x = .pointer (some ⟨g, k, none⟩)) (hy : a.eval y = .agg vs.toArray) (hg : VArr t w g L) (hl : vs.length = n) (hk : k + n ≤ L.length) (h1 : ∀ v ∈ vs, v.oneCell' = true) (hi : (Try.prog.info? ty).map (·.size) = some n)
    (h : ∀ w', VArr t w' g (L.take k ++ vs ++ L.drop (k + n)) → (∀ j, j ≠ g → w'.heap[j]? = w.heap[j]?) → w'.heap.size = w.heap.size → Below g w w' → K (a.put o.dst undef) w') : Oper.wp Try.prog o a w K Q := by
  have hst := run_storeCells_at Try.prog g k t vs 0 L.toArray w hg (by simp; omega) h1
  simp only [Nat.add_zero] at hst
  cases hq : Try.prog.info? ty with
  | none => simp [hq] at hi
  | some i =>
    have hs : i.size = n := by simpa [hq] using hi
    rw [hl] at hst
    have hrun : (storeVar ty ⟨g, k, none⟩ (.agg vs.toArray)).run Try.prog w = .ok () (w.setRow g (L.take k ++ vs ++ L.drop (k + n)).toArray) := by
      simpa [storeVar, sizeOf, typeInfo, hq, Value.cells, hs, hl] using hst
    unfold Oper.wp execOp
    simp only [ho, hx, hy, Instr.storeAt, Instr.sureAddr, Sem.run_bind, Sem.run_pure, Result.andThen_ok, hrun]
    exact h _ (setRow_heap w g L.toArray _ t _ hg) (fun j hj => setRow_other w g j _ hj) (by simp) ((Below.refl g w).grown (w' := w.setRow g (L.take k ++ vs ++ L.drop (k + n)).toArray) (row := some g) ⟨rfl, rfl, rfl, by simp, fun j _ hj => setRow_other w g j _ (fun e => hj (by simp [e]))⟩ (Nat.le_of_lt (VArr.lt hg)) (fun j e => by have := Option.some.inj e; omega))
/-- What lies from lo on, below hi, is as it was. -/
def KB (lo hi : Nat) (w V : World) : Prop := hi ≤ V.heap.size ∧ ∀ j, lo ≤ j → j < hi → V.heap[j]? = w.heap[j]?
section
variable {lo hi : Nat} {w V V' : World}
theorem KB.refl (lo : Nat) (w : World) : KB lo w.heap.size w w := ⟨Nat.le_refl _, fun _ _ _ => rfl⟩
theorem KB.trans (h : KB lo hi w V) (hz : V.heap.size ≤ V'.heap.size) (hk : ∀ j, lo ≤ j → j < hi → V'.heap[j]? = V.heap[j]?) : KB lo hi w V' := ⟨Nat.le_trans h.1 hz, fun j h1 h2 => (hk j h1 h2).trans (h.2 j h1 h2)⟩
theorem KB.below (h : KB lo hi w V) (hb : Below V.heap.size V V') : KB lo hi w V' := h.trans hb.size fun j _ h2 => hb.block j (Nat.lt_of_lt_of_le h2 h.1)
theorem KB.low (h : KB lo hi w V) (p : Addr) (hp : p.block < lo) (x : Value) : KB lo hi w (V.setCell p x) := h.trans (by simp) fun j h1 _ => Below.heap_setCell V p x j (by omega)
theorem KB.grown (h : KB lo hi w V) {b : Option Nat} (hg : V.grownBy V' b) (hb : ∀ j, b = some j → hi ≤ j) : KB lo hi w V' := h.trans hg.size fun j _ h2 => hg.block j (Nat.lt_of_lt_of_le h2 h.1) (fun e => by have := hb j e.symm; omega)
theorem KB.alloc (h : KB lo hi w V) (o : Obj) : KB lo hi w (V.alloc o) := h.below ((Below.refl _ _).alloc (Nat.le_refl _) o)
end
/-- Rows that are done with, in an own row. -/
structure OutL (V : World) (base : Nat) (A : Option Addr) (n c : Nat) (ls : List Il) : Prop where
  row : V.ownsRow base 35 1 (.slice A n c) n (ls.map Il.v)
  nc : n ≤ c
  each : ∀ l ∈ ls, IOwn V base l.a l.n l.c l.ds
section
variable {V V' : World} {base n c : Nat} {A : Option Addr} {ls : List Il}
theorem OutL.len (h : OutL V base A n c ls) : ls.length = n := by have h1 := h.row.1; simpa using h1
theorem OutL.nil_ (V : World) (base : Nat) : OutL V base none 0 0 [] := ⟨World.ownsRow_nil V base _ 1, Nat.le_refl _, by simp⟩
theorem OutL.keep (h : OutL V base A n c ls) (hk : ∀ j, base ≤ j → j < V.heap.size → V'.heap[j]? = V.heap[j]?) : OutL V' base A n c ls :=
  ⟨own_keep h.row fun j hj => hk j (h.row.lt j hj).1 (h.row.lt j hj).2, h.nc, fun l hl => (h.each l hl).keep fun j hj => hk j ((h.each l hl).lt j hj).1 ((h.each l hl).lt j hj).2⟩
theorem OutL.kb (h : OutL V base A n c ls) (hk : KB base V.heap.size V V') : OutL V' base A n c ls := h.keep hk.2
theorem OutL.reads (h : OutL V base A n c ls) (hl : ∀ l ∈ ls, l.n ≤ 9223372036854775807) : LRd V V.heap.size A n ls := ⟨Reads.of_own h.row, fun l hm => ⟨(h.each l hm).reads, hl l hm⟩⟩
end
theorem wpList_appO {ops : Array Oper} {rest : List Oper} {o : Oper} {a : Act} {Q : Exit → Act → World → Prop} {w : World} (hgd : o.guard = none) (s x : Operand)
    (ho : o.op = .call { callee := .builtin .append, args := #[s, x], argTypes := #[29, 29] })
    (base : Nat) (A : Option Addr) (n c : Nat) (ls : List Il) (l : Il) (hs : a.eval s = .slice A n c) (hown : OutL w base A n c ls) (hl : IOwn w base l.a l.n l.c l.ds)
    (B : Nat) (D : Option Addr) (hx : a.eval x = .slice D 1 1) (hr : Reads w B 1 D 1 [l.v])
    (hlen : n + 1 ≤ 1000000) (hbase : base ≤ w.heap.size)
    (h : ∀ A' c' w', OutL w' base A' (n + 1) c' (ls ++ [l]) → w.grownBy w' (Value.slice A n c).ownBlock → wpList Try.prog ops Q rest (a.put o.dst (.slice A' (n + 1) c')) w') : wpList Try.prog ops Q (o :: rest) a w := by
  obtain ⟨i0, hi, hz0, hz1, hz2⟩ := info_parts info_ints
  refine wpList_append_any w hgd s x 29 ho base 35 i0 (.slice none 0 0) 1 24 Try.underlying29 hi hz0 hz1 hz2 rfl (by decide) (.slice A n c) n _ hs hown.row B D 1 1 _ hx hr
    (fun u hu => by obtain rfl := List.mem_singleton.1 hu; rfl) (by simp only [maxLen]; omega) (by omega) hbase ?_
  intro v' w' hown' hg hat
  obtain ⟨A', c', rfl, hc⟩ := own_shape hown'
  refine h A' c' w' ⟨by rw [List.map_append]; exact hown', hc, fun y hy => ?_⟩ hg
  have hne : ∀ y : Il, IOwn w base y.a y.n y.c y.ds → IOwn w' base y.a y.n y.c y.ds := fun y hy => hy.keep fun j hj => hg.block j (hy.lt j hj).2 fun e => rows_int_ne hown.row hy hj e.symm
  rcases List.mem_append.1 hy with hy | hy
  · exact hne y (hown.each y hy)
  · obtain rfl := List.mem_singleton.1 hy
    exact hne y hl
theorem headsP_one {has : Nat → Bool} {both : Nat → Nat → Bool} {root : Nat → Nat} (hc : CtxP has both root) : headsP has root 1 = [] := by
  rw [headsP_succ]
  have : headP has root 0 = false := Bool.eq_false_iff.2 fun h => by
    have := hc.dev (headP_iff.1 h).1
    omega
  rw [this]
  rfl
theorem membP_len {has : Nat → Bool} {root : Nat → Nat} (k d : Nat) : (membP has root k d).length ≤ k := by
  unfold membP
  rw [List.length_map]
  exact Nat.le_trans (List.length_filter_le _ _) (by simp)
theorem insR_len (d : Int) (l : List Int) : (insR d l).length = l.length + 1 := by
  unfold insR
  have h : (l.takeWhile (fun x => decide (x ≤ d)) ++ l.dropWhile (fun x => decide (x ≤ d))).length = l.length := by rw [List.takeWhile_append_dropWhile]
  rw [List.length_append] at h ⊢
  rw [List.length_cons]
  omega
theorem sortP_len : ∀ (n : Nat) (l : List Nat), l.length = n → (sortP l).length = n
  | 0, l, hl => by
    obtain rfl := List.length_eq_zero_iff.1 hl
    rfl
  | n + 1, l, hl => by
    obtain ⟨l', x, rfl⟩ : ∃ l' x, l = l' ++ [x] := ⟨l.dropLast, l.getLast (by intro e; rw [e] at hl; cases hl), (List.dropLast_concat_getLast _).symm⟩
    rw [sortP_snoc, insR_len, sortP_len n l' (by rw [List.length_append, List.length_singleton] at hl; omega)]
set_option maxRecDepth 100000 in
set_option maxHeartbeats 16000000 in
theorem rparts_v (A : Option Addr) (n c B : Nat) (ms : List Mx) (f : ByteArray) (w : World) (hr : MatsR w B A n ms) (hB : B ≤ w.heap.size) (hn : n ≤ 9223372036854775807) :
    Calls Try.prog 13 #[.slice A n c, .string f] w fun e w' => ∃ A' n' c' ls, e = .returned (.slice A' n' c') ∧ LRd w' w'.heap.size A' n' ls ∧ ls.map Il.ds = partsU (ms.map Mx.p) f ∧ n' ≤ 17 ∧ Below w.heap.size w w' := by
  have HIM := Lib.hid (show (Try.prog.info? 27).map (·.size) = some 2 by kernel_rfl)
  have HR := Lib.hid hr
  have HLN := Lib.hid hr.len
  clear hr
  go_enter Try.func13, Try.ntmps13
  go_upto_region 3 with fail
  generalize hg : w.heap.size = g at *
  have HX0 : Hid (∀ w5, w5 = ((w.alloc (.cells (byL ms (fun _ => none)).toArray 64)).alloc (.cells ((List.range 17).map fun j => Value.bool (isF ms f (fun _ => none) j)).toArray 65)).alloc (.cells ((List.replicate 17 false).map Value.bool).toArray 65) → VArr 64 w5 g (byL ms (fun _ => none)) ∧ VArr 65 w5 (g + 1) ((List.range 17).map fun j => Value.bool (isF ms f (fun _ => none) j)) ∧ VArr 65 w5 (g + 2) ((List.replicate 17 false).map Value.bool) ∧ Below g w w5 ∧ w5.heap.size = g + 3) := Lib.hid fun w5 e => by
    subst e
    refine ⟨?_, ?_, ?_, ?_, by simp [hg]⟩
    · have h := heap_alloc_new w (.cells (byL ms (fun _ => none)).toArray 64)
      rw [hg] at h
      exact (Below.heap_alloc _ _ _ (by simp; omega)).trans ((Below.heap_alloc _ _ _ (by simp; omega)).trans h)
    · have h := heap_alloc_new (w.alloc (.cells (byL ms (fun _ => none)).toArray 64)) (.cells ((List.range 17).map fun j => Value.bool (isF ms f (fun _ => none) j)).toArray 65)
      rw [show (w.alloc (.cells (byL ms (fun _ => none)).toArray 64)).heap.size = g + 1 by simp [hg]] at h
      exact (Below.heap_alloc _ _ _ (by simp; omega)).trans h
    · have h := heap_alloc_new ((w.alloc (.cells (byL ms (fun _ => none)).toArray 64)).alloc (.cells ((List.range 17).map fun j => Value.bool (isF ms f (fun _ => none) j)).toArray 65)) (.cells ((List.replicate 17 false).map Value.bool).toArray 65)
      rw [show ((w.alloc (.cells (byL ms (fun _ => none)).toArray 64)).alloc (.cells ((List.range 17).map fun j => Value.bool (isF ms f (fun _ => none) j)).toArray 65)).heap.size = g + 2 by simp [hg]] at h
      exact h
    · exact (((Below.refl g w).alloc (by omega) _).alloc (by simp; omega) _).alloc (by simp; omega) _
  obtain ⟨x5, y5, d5, b5, hz5⟩ := HX0.out (((w.alloc (.cells #[.int .i64 0, .slice none 0 0, .int .i64 0, .slice none 0 0, .int .i64 0, .slice none 0 0, .int .i64 0, .slice none 0 0, .int .i64 0, .slice none 0 0, .int .i64 0, .slice none 0 0, .int .i64 0, .slice none 0 0, .int .i64 0, .slice none 0 0, .int .i64 0, .slice none 0 0, .int .i64 0, .slice none 0 0, .int .i64 0, .slice none 0 0, .int .i64 0, .slice none 0 0, .int .i64 0, .slice none 0 0, .int .i64 0, .slice none 0 0, .int .i64 0, .slice none 0 0, .int .i64 0, .slice none 0 0, .int .i64 0, .slice none 0 0] 64)).alloc (.cells #[.bool false, .bool false, .bool false, .bool false, .bool false, .bool false, .bool false, .bool false, .bool false, .bool false, .bool false, .bool false, .bool false, .bool false, .bool false, .bool false, .bool false] 65)).alloc (.cells #[.bool false, .bool false, .bool false, .bool false, .bool false, .bool false, .bool false, .bool false, .bool false, .bool false, .bool false, .bool false, .bool false, .bool false, .bool false, .bool false, .bool false] 65)) rfl
  generalize ((w.alloc (.cells #[.int .i64 0, .slice none 0 0, .int .i64 0, .slice none 0 0, .int .i64 0, .slice none 0 0, .int .i64 0, .slice none 0 0, .int .i64 0, .slice none 0 0, .int .i64 0, .slice none 0 0, .int .i64 0, .slice none 0 0, .int .i64 0, .slice none 0 0, .int .i64 0, .slice none 0 0, .int .i64 0, .slice none 0 0, .int .i64 0, .slice none 0 0, .int .i64 0, .slice none 0 0, .int .i64 0, .slice none 0 0, .int .i64 0, .slice none 0 0, .int .i64 0, .slice none 0 0, .int .i64 0, .slice none 0 0, .int .i64 0, .slice none 0 0] 64)).alloc (.cells #[.bool false, .bool false, .bool false, .bool false, .bool false, .bool false, .bool false, .bool false, .bool false, .bool false, .bool false, .bool false, .bool false, .bool false, .bool false, .bool false, .bool false] 65)).alloc (.cells #[.bool false, .bool false, .bool false, .bool false, .bool false, .bool false, .bool false, .bool false, .bool false, .bool false, .bool false, .bool false, .bool false, .bool false, .bool false, .bool false, .bool false] 65) = w5 at *
  have X5 := Lib.hid x5
  have Y5 := Lib.hid y5
  have D5 := Lib.hid d5
  have B5 := Lib.hid b5
  clear x5 y5 d5 b5 HX0
  go_wp2_with fail
  go_loopw [8] (fun i wr => ∃ k : Nat, k ≤ n ∧ i = .int .i64 (k : Int) ∧ Below g w wr ∧ wr.heap.size ≥ g + 3 ∧ VArr 64 wr g (byL ms (ofI ((ms.map Mx.p).take k))) ∧ VArr 65 wr (g + 1) ((List.range 17).map fun j => Value.bool (isF ms f (ofI ((ms.map Mx.p).take k)) j)) ∧ VArr 65 wr (g + 2) ((List.replicate 17 false).map Value.bool)) (fun i _ => n - (intOf i).toNat)
  case atStart => exact ⟨0, Nat.zero_le _, rfl, B5.out, Nat.le_of_eq hz5.symm, X5.out, Y5.out, D5.out⟩
  case round =>
    obtain ⟨k, hk, rfl, hb, hzr, hx, hy, hd⟩ := hrel
    have HB := Lib.hid hb
    have HX := Lib.hid hx
    have HY := Lib.hid hy
    have HD := Lib.hid hd
    clear hb hx hy hd X5 Y5 D5 B5 hz5
    by_cases hlt : k < n
    · obtain ⟨ad, own, ra, rn, rc, rs, rfl, hx, hri, hrn, hcs, hc2⟩ := HR.out.at_ hlt
      have HMX := Lib.hid hx
      have HRI := Lib.hid hri
      have HCS := Lib.hid (hcs wr (HB.out.mono hB))
      have HC2 := Lib.hid (show ∀ V, Below g w V → V.cell? (ad.add (k * 2)) = some (.int .i64 own) ∧ V.cell? ⟨(ad.add (k * 2)).block, (ad.add (k * 2)).off + 1, none⟩ = some (.slice ra rn rc) from fun V hV => ⟨hc2 V (hV.mono hB), hcs V (hV.mono hB) 1 _ rfl⟩)
      have c0 := hc2 wr (HB.out.mono hB)
      have HPK := Lib.hid (show (ms.map Mx.p)[k]? = some (own, rs.map Rw.p) by rw [List.getElem?_map, hx]; rfl)
      have HST := Lib.hid (ofI_step (ms := ms.map Mx.p) (k := k) (m := (own, rs.map Rw.p)) HPK.out)
      have k0 : (0 : Int) ≤ (k : Int) := by omega
      clear hx hri hcs hc2
      go_upto_region 6 with fail
      go_wp2_with (first
        | (refine wpList_load_slot rfl 27 (.tmp 24) rfl (ad.add (k * 2)) rfl [.int .i64 own, .slice ra rn rc] _ HCS.out Try.underlying27 rfl HIM.out ?_)
        | fail)
      have CV := rcheck_v own ra rn rc B rs wr (HRI.out.below (HB.out.mono hB)) (by omega) hrn
      obtain ⟨ck, hck⟩ : ∃ ck, chkM (own, rs.map Rw.p) = ck := ⟨_, rfl⟩
      have HCK := Lib.hid hck
      rw [hck] at CV
      clear hck
      refine CV.mono ?_
      rintro e w1 ⟨rfl, b1⟩
      have HB1 := Lib.hid (HB.out.trans (b1.mono (by omega)))
      have HX1 := Lib.hid (HX.out.below b1)
      have HY1 := Lib.hid (HY.out.below b1)
      have HD1 := Lib.hid (HD.out.below b1)
      have hz1 := b1.size
      clear b1 CV c0 HCS HX HY HB HD
      by_cases h0 : ck = 0
      case neg =>
        have d1 : ((ck : Int) == 0) = false := beq_eq_false_iff_ne.2 (by omega)
        have HS2 := Lib.hid (show ofI ((ms.map Mx.p).take (k + 1)) = ofI ((ms.map Mx.p).take k) from funext fun j => by
          rw [HST.out]
          unfold okAt
          rw [HCK.out, decide_eq_false h0]
          simp)
        clear h0
        go_wp2_with fail
        go_roundw
        case rel => exact ⟨k + 1, hlt, by go_num, HB1.out, by omega, by rw [HS2.out]; exact HX1.out, by rw [HS2.out]; exact HY1.out, HD1.out⟩
        case measure => simp [intOf]; omega
      subst h0
      obtain ⟨q, hq, hq0, rfl⟩ : ∃ q : Nat, q < 17 ∧ 0 < q ∧ own = (q : Int) := by
        have h1 := dev_iff.1 (chk_ok HCK.out).2.1
        exact ⟨own.toNat, by simp only at h1; omega, by simp only at h1; omega, by simp only at h1; omega⟩
      have q0 : (0 : Int) ≤ (q : Int) := by omega
      have q1 : (q : Int) < 17 := by omega
      have d1 : (((0 : Nat) : Int) == 0) = true := rfl
      obtain ⟨o, ho⟩ : ∃ o, ofI ((ms.map Mx.p).take k) q = o := ⟨_, rfl⟩
      have HOK := Lib.hid (show ∀ j, okAt ((q : Int), rs.map Rw.p) j = decide (q = j) from fun j => by
        unfold okAt
        rw [HCK.out]
        simp only [decide_true, Bool.true_and]
        by_cases h : q = j
        · subst h; simp
        · rw [decide_eq_false h]; simp; omega)
      have HO := Lib.hid ho
      clear ho
      have ca := (HC2.out w1 HB1.out).1
      cases o with
      | some i0 =>
        have HS2 := Lib.hid (show ofI ((ms.map Mx.p).take (k + 1)) = ofI ((ms.map Mx.p).take k) from funext fun j => by
          rw [HST.out, HOK.out]
          by_cases h : q = j
          · subst h; rw [HO.out]; rfl
          · rw [decide_eq_false h]; simp)
        have c1 := VArr.cell HX1.out (j := q * 2) (x := .int .i64 (q : Int)) (by
          obtain ⟨m, hm, hk2⟩ := ofI_get HO.out
          have h2 : i0 < k := by have := (List.getElem?_eq_some_iff.1 hm).1; rw [List.length_take] at this; omega
          rw [List.getElem?_take, if_pos h2, List.getElem?_map] at hm
          have h3 := byL_at (ms := ms) (os := ofI ((ms.map Mx.p).take k)) (j := q) (i := 0) hq (by omega)
          rw [Nat.add_zero, HO.out] at h3
          rw [h3]
          unfold byC
          simp only
          cases hmi : ms[i0]? with
          | none => rw [hmi] at hm; cases hm
          | some mm =>
            rw [hmi] at hm
            have hm := Option.some.inj hm
            unfold okAt at hk2
            rw [← hm, Bool.and_eq_true, decide_eq_true_eq, decide_eq_true_eq] at hk2
            simp only [Mx.cells, List.getElem?_cons_zero]
            rw [show mm.own = (q : Int) from hk2.2])
        have d2 : ((q : Int) == 0) = false := beq_eq_false_iff_ne.2 (by omega)
        go_wp2_with fail
        go_roundw
        case rel => exact ⟨k + 1, hlt, by go_num, HB1.out, by omega, by rw [HS2.out]; exact HX1.out, by rw [HS2.out]; exact HY1.out, HD1.out⟩
        case measure => simp [intOf]; omega
      | none =>
        have c1 := VArr.cell HX1.out (j := q * 2) (x := .int .i64 0) (by
          have h3 := byL_at (ms := ms) (os := ofI ((ms.map Mx.p).take k)) (j := q) (i := 0) hq (by omega)
          rw [Nat.add_zero, HO.out] at h3
          rw [h3]
          rfl)
        have hzw : g + 3 ≤ w1.heap.size := by omega
        go_upto_region 7 with fail
        have HB2 := Lib.hid (show Below g w w1.drew from HB1.out.drew)
        have HX2 := Lib.hid (show VArr 64 w1.drew g _ from HX1.out)
        have HY2 := Lib.hid (show VArr 65 w1.drew (g + 1) _ from HY1.out)
        have HD2 := Lib.hid (show VArr 65 w1.drew (g + 2) _ from HD1.out)
        have hz2 : g + 3 ≤ w1.drew.heap.size := hzw
        have hS : w1.drew.cell? (ad.add (k * 2)) = some (.int .i64 (q : Int)) ∧ w1.drew.cell? ⟨(ad.add (k * 2)).block, (ad.add (k * 2)).off + 1, none⟩ = some (.slice ra rn rc) := HC2.out _ HB2.out
        clear ca c1 HB1 HX1 HY1 HD1 hz1 hzr hzw d1
        refine wp_region_text [(0, false), (1, false), (2, false), (3, false), (4, false), (5, false), (6, false), (7, false), (8, false), (9, false), (10, false), (11, false), (12, false), (13, false), (14, false), (15, false), (16, false), (17, false), (18, false), (20, false), (19, true), (21, true), (22, false), (23, true)] (fun V => V.cell? (ad.add (k * 2)) = some (.int .i64 (q : Int)) ∧ V.cell? ⟨(ad.add (k * 2)).block, (ad.add (k * 2)).off + 1, none⟩ = some (.slice ra rn rc)) (by kernel_rfl) (by kernel_rfl) (by kernel_rfl) (by kernel_rfl) (by kernel_rfl) (fun _ => ?_)
        simp only [outOf, List.getElem?_cons_zero, List.getElem?_cons_succ, Option.getD_some]
        generalize w1.drew = w2 at *
        iterate 20 ((first | (refine TW.val2 (v := ?_) ?_ ?_ ?_ ?_ ?_; rotate_left; (focus rfl); (focus (intro W hSW; (try dsimp only at hSW); (try (obtain ⟨hS1, hSW⟩ := hSW)); (try (obtain ⟨hS2, hSW⟩ := hSW)); (try (obtain ⟨hS3, hSW⟩ := hSW)); (try (obtain ⟨hS4, hSW⟩ := hSW)); (try (obtain ⟨hS5, hSW⟩ := hSW)); (try (obtain ⟨hS6, hSW⟩ := hSW)); (try (obtain ⟨hS7, hSW⟩ := hSW)); (try (obtain ⟨hS8, hSW⟩ := hSW)); go_simp; (try with_reducible rfl); done)); (focus exact fun _ _ _ h => h); (focus assumption)) | (refine TW.skip (e := false) ?_ ?_ ?_ ?_; (focus rfl); (focus exact fun _ _ _ h => h); (focus assumption))); simp only [Act.put, List.setIfInBounds_toArray, List.set_cons_zero, List.set_cons_succ])
        refine TW.eff (by rfl) (fun K hK => ?_); go_simp
        refine (rhas_v (q : Int) ra rn rc B rs f w2 (HRI.out.below (HB2.out.mono hB)) (by omega) hrn).mono ?_
        rintro e w3 ⟨rfl, b3⟩
        have HB3 := Lib.hid (HB2.out.trans (b3.mono (by omega)))
        have HX3 := Lib.hid (HX2.out.below b3)
        have HY3 := Lib.hid (HY2.out.below b3)
        have HD3 := Lib.hid (HD2.out.below b3)
        have hz3 : g + 3 ≤ w3.heap.size := by have := b3.size; omega
        have hS2 := HC2.out w3 HB3.out
        clear hS b3 HB2 HX2 HY2 HD2 hz2
        go_wp2_with fail; refine hK.out _ _ hS2 ?_; clear hK; (try simp only [Act.put, List.setIfInBounds_toArray, List.set_cons_zero, List.set_cons_succ])
        refine TW.eff (by rfl) (fun K hK => ?_)
        refine wp_store_arr 27 (.tmp 59) (.tmp 52) rfl g (q * 2) 2 64 _ [.int .i64 (q : Int), .slice ra rn rc] rfl rfl HX3.out rfl (by rw [byL_len]; omega) (by intro v hv; simp only [List.mem_cons, List.not_mem_nil, or_false] at hv; rcases hv with rfl | rfl <;> rfl) HIM.out ?_
        intro w4 hx4 hk4 hz4 b4
        have HB4 := Lib.hid (HB3.out.trans b4)
        have HX4 := Lib.hid hx4
        have HY4 := Lib.hid (HY3.out.keep (hk4 (g + 1) (by omega)))
        have HD4 := Lib.hid (HD3.out.keep (hk4 (g + 2) (by omega)))
        have hz5 : g + 3 ≤ w4.heap.size := by omega
        have hS := HC2.out w4 HB4.out
        clear hx4 hk4 hz4 b4 hS2 HB3 HX3 HY3 HD3 hz3
        refine hK.out _ _ hS ?_
        clear hK
        (try simp only [Act.put, List.setIfInBounds_toArray, List.set_cons_zero, List.set_cons_succ])
        iterate 1 ((first | (refine TW.val2 (v := ?_) ?_ ?_ ?_ ?_ ?_; rotate_left; (focus rfl); (focus (intro W hSW; (try dsimp only at hSW); (try (obtain ⟨hS1, hSW⟩ := hSW)); (try (obtain ⟨hS2, hSW⟩ := hSW)); (try (obtain ⟨hS3, hSW⟩ := hSW)); (try (obtain ⟨hS4, hSW⟩ := hSW)); (try (obtain ⟨hS5, hSW⟩ := hSW)); (try (obtain ⟨hS6, hSW⟩ := hSW)); (try (obtain ⟨hS7, hSW⟩ := hSW)); (try (obtain ⟨hS8, hSW⟩ := hSW)); go_simp; (try with_reducible rfl); done)); (focus exact fun _ _ _ h => h); (focus assumption)) | (refine TW.skip (e := false) ?_ ?_ ?_ ?_; (focus rfl); (focus exact fun _ _ _ h => h); (focus assumption))); simp only [Act.put, List.setIfInBounds_toArray, List.set_cons_zero, List.set_cons_succ])
        refine TW.eff (by rfl) (fun K hK => ?_)
        have f4 := VArr.frozen HY4.out q
        have c4 := VArr.cell HY4.out (j := q) (x := .bool false) (by
          rw [List.getElem?_map, List.getElem?_range hq]
          simp only [Option.map_some]
          unfold isF
          rw [HO.out])
        have HB5 := Lib.hid (HB4.out.setCell (p := ⟨g + 1, q, none⟩) (show g ≤ g + 1 by omega) (.bool (hasP ((q : Int), rs.map Rw.p) f)))
        have HX5 := Lib.hid (VArr.setOther HX4.out (p := ⟨g + 1, q, none⟩) (by simp) (.bool (hasP ((q : Int), rs.map Rw.p) f)))
        have HY5 := Lib.hid (VArr.set_ HY4.out q (.bool (hasP ((q : Int), rs.map Rw.p) f)))
        have HD5 := Lib.hid (VArr.setOther HD4.out (p := ⟨g + 1, q, none⟩) (by simp) (.bool (hasP ((q : Int), rs.map Rw.p) f)))
        have hz6 : g + 3 ≤ (w4.setCell ⟨g + 1, q, none⟩ (.bool (hasP ((q : Int), rs.map Rw.p) f))).heap.size := by simpa using hz5
        have hS2 := HC2.out _ HB5.out
        clear hS
        go_wp2_with fail; refine hK.out _ _ hS2 ?_; clear hK; (try simp only [Act.put, List.setIfInBounds_toArray, List.set_cons_zero, List.set_cons_succ])
        refine TW.done ?_
        clear hS2 f4 c4
        have HXS := Lib.hid (show (byL ms (ofI ((ms.map Mx.p).take k))).take (q * 2) ++ [.int .i64 (q : Int), .slice ra rn rc] ++ (byL ms (ofI ((ms.map Mx.p).take k))).drop (q * 2 + 2) = byL ms (ofI ((ms.map Mx.p).take (k + 1))) from byL_set hq (by
          rw [HST.out, HOK.out, HO.out]
          simp only [Option.none_or, decide_true, if_true]
          unfold byC
          simp only
          rw [HMX.out]
          rfl) (fun j hj => by rw [HST.out, HOK.out, decide_eq_false (fun e => hj e.symm)]; simp))
        have HYS := Lib.hid (show ((List.range 17).map fun j => Value.bool (isF ms f (ofI ((ms.map Mx.p).take k)) j)).set q (.bool (hasP ((q : Int), rs.map Rw.p) f)) = (List.range 17).map fun j => Value.bool (isF ms f (ofI ((ms.map Mx.p).take (k + 1))) j) by
          refine range_set ?_ (fun j hj => ?_)
          · unfold isF
            rw [HST.out, HOK.out, HO.out]
            simp only [Option.none_or, decide_true, if_true]
            rw [List.getD_eq_getElem?_getD, HPK.out]
            rfl
          · unfold isF
            rw [HST.out, HOK.out, decide_eq_false (fun e => hj e.symm)]
            simp)
        go_wp2_with fail
        go_roundw
        case rel => exact ⟨k + 1, hlt, by go_num, HB5.out, hz6, by rw [← HXS.out]; exact HX5.out, by rw [← HYS.out]; exact HY5.out, HD5.out⟩
        case measure => simp [intOf]; omega
    · obtain rfl : k = n := by omega
      have HX2 := Lib.hid (show VArr 64 wr g (byL ms (ofI (ms.map Mx.p))) by have h := HX.out; rwa [List.take_of_length_le (by rw [List.length_map, HLN.out]; exact Nat.le_refl _)] at h)
      have HY2 := Lib.hid (show VArr 65 wr (g + 1) ((List.range 17).map fun j => Value.bool (hasI (ms.map Mx.p) f j)) by have h := HY.out; rwa [List.take_of_length_le (by rw [List.length_map, HLN.out]; exact Nat.le_refl _)] at h)
      have HC := ctx_of (ms.map Mx.p) f
      have HPU := Lib.hid (partsU_heads (ms.map Mx.p) f)
      have HBV := Lib.hid (show ∀ a b, bothI (ms.map Mx.p) f a b = match ofI (ms.map Mx.p) a, ofI (ms.map Mx.p) b with | some i, some j => bothP ((ms.map Mx.p).getD i (0, [])) ((ms.map Mx.p).getD j (0, [])) f | _, _ => false from fun _ _ => rfl)
      have HOS := Lib.hid (show ∀ a, hasI (ms.map Mx.p) f a = true → ∃ i, ofI (ms.map Mx.p) a = some i from fun a h => Option.isSome_iff_exists.1 (hasI_some h))
      obtain ⟨root, hroot⟩ : ∃ r, rootOf (ms.map Mx.p) f = r := ⟨_, rfl⟩
      obtain ⟨both, hbo⟩ : ∃ b, bothI (ms.map Mx.p) f = b := ⟨_, rfl⟩
      obtain ⟨has, hhas⟩ : ∃ b, hasI (ms.map Mx.p) f = b := ⟨_, rfl⟩
      rw [hroot, hbo, hhas] at HC
      rw [hroot, hhas] at HPU
      rw [hhas] at HY2 HOS
      rw [hbo] at HBV
      have HCX := Lib.hid HC
      clear hroot hbo hhas HC HX HY
      obtain ⟨by_, hby⟩ : ∃ b, byL ms (ofI (ms.map Mx.p)) = b := ⟨_, rfl⟩
      have HBY := Lib.hid hby
      rw [hby] at HX2
      obtain ⟨is_, his⟩ : ∃ b, ((List.range 17).map fun j => Value.bool (has j)) = b := ⟨_, rfl⟩
      have HIS := Lib.hid (show ∀ j, j < 17 → is_[j]? = some (.bool (has j)) from fun j hj => by rw [← his, List.getElem?_map, List.getElem?_range hj]; rfl)
      rw [his] at HY2
      clear hby his
      go_wp2_with fail
      go_loopw [9, 10, 11, 12, 13, 14, 15] (fun o d _ _ _ _ _ V => ∃ (dv m c' : Nat) (A' : Option Addr) (ls : List Il) (dn : List Bool), dv ≤ 17 ∧ d = .int .i64 (dv : Int) ∧ o = .slice A' m c' ∧ m ≤ dv ∧ OutL V (g + 3) A' m c' ls ∧ ls.map Il.ds = (headsP has root dv).map (membP has root 17) ∧ DoneI has root dv dn ∧ Below g w V ∧ g + 3 ≤ V.heap.size ∧ VArr 64 V g by_ ∧ VArr 65 V (g + 1) is_ ∧ VArr 65 V (g + 2) (dn.map Value.bool)) (fun _ i _ _ _ _ _ _ => 17 - (intOf i).toNat)
      case atStart => exact ⟨1, 0, 0, none, [], List.replicate 17 false, by omega, rfl, rfl, by omega, OutL.nil_ _ _, by rw [headsP_one HCX.out]; rfl, DoneI.start HCX.out, HB.out, hzr, HX2.out, HY2.out, HD.out⟩
      case round =>
        obtain ⟨dv, m, c', A', ls, dn, hdv, rfl, rfl, hm, ho, hds, hdn, hb, hz, hx, hy, hd⟩ := hrel
        have HO := Lib.hid ho
        have HDS := Lib.hid hds
        have HDN := Lib.hid hdn
        have HB := Lib.hid hb
        have HX := Lib.hid hx
        have HY := Lib.hid hy
        have HD := Lib.hid hd
        obtain ⟨wo, hwo⟩ : ∃ x, x = wr := ⟨_, rfl⟩
        subst hwo
        clear ho hds hdn hb hx hy hd HX2 HY2
        by_cases hlt : dv < 17
        case neg =>
          obtain rfl : dv = 17 := by omega
          have HLL := Lib.hid (show ∀ l ∈ ls, l.n ≤ 9223372036854775807 from fun l hl => by
            have h1 := (HO.out.each l hl).len
            have h2 : l.ds ∈ (headsP has root 17).map (membP has root 17) := by rw [← HDS.out]; exact List.mem_map.2 ⟨_, hl, rfl⟩
            obtain ⟨e, _, he⟩ := List.mem_map.1 h2
            rw [← he] at h1
            have h3 := membP_len (has := has) (root := root) 17 e
            omega)
          go_wp2_with fail
          go_ret
          exact ⟨A', m, c', ls, rfl, HO.out.reads HLL.out, by rw [HPU.out]; exact HDS.out, hm, hg ▸ HB.out⟩
        have d0 : (0 : Int) ≤ (dv : Int) := by omega
        have d1 : (dv : Int) < 17 := by omega
        have c0 := VArr.cell HY.out (HIS.out dv hlt)
        obtain ⟨xd, hxd⟩ : ∃ xd, dn[dv]? = some xd := ⟨_, List.getElem?_eq_getElem (by have := HDN.out.1; omega)⟩
        have c1 := VArr.cell HD.out (j := dv) (x := .bool xd) (by rw [List.getElem?_map, hxd]; rfl)
        obtain ⟨hv, hhv⟩ : ∃ hv, has dv = hv := ⟨_, rfl⟩
        rw [hhv] at c0
        have HXD := Lib.hid hxd
        have HHV := Lib.hid hhv
        clear hxd hhv
        have HSK : Hid (hv = false ∨ xd = true → DoneI has root (dv + 1) dn ∧ headP has root dv = false) := Lib.hid fun h => HDN.out.skip hlt (by
          rcases h with h | h
          · exact .inl (HHV.out.trans h)
          · exact .inr (by rw [HXD.out, h]))
        cases hv with
        | false =>
          have HN := Lib.hid (HSK.out (.inl rfl))
          have HN2 := Lib.hid (show headsP has root (dv + 1) = headsP has root dv by rw [headsP_succ, HN.out.2]; simp)
          go_wp2_with fail
          go_roundw
          case rel => exact ⟨dv + 1, m, c', A', ls, dn, by omega, by go_num, rfl, by omega, HO.out, by rw [HN2.out]; exact HDS.out, HN.out.1, HB.out, hz, HX.out, HY.out, HD.out⟩
          case measure => simp [intOf]; omega
        | true =>
        cases xd with
        | true =>
          have HN := Lib.hid (HSK.out (.inr rfl))
          have HN2 := Lib.hid (show headsP has root (dv + 1) = headsP has root dv by rw [headsP_succ, HN.out.2]; simp)
          go_wp2_with fail
          go_roundw
          case rel => exact ⟨dv + 1, m, c', A', ls, dn, by omega, by go_num, rfl, by omega, HO.out, by rw [HN2.out]; exact HDS.out, HN.out.1, HB.out, hz, HX.out, HY.out, HD.out⟩
          case measure => simp [intOf]; omega
        | false =>
        clear HSK
        have HBF := Lib.hid (HDN.out.take HCX.out HHV.out (by rw [HXD.out]; simp))
        have HN2 := Lib.hid (show headsP has root (dv + 1) = headsP has root dv ++ [dv] by rw [headsP_succ, HBF.out.hd]; rfl)
        have f1 := VArr.frozen HD.out dv
        go_upto_region 14 with fail
        have HB1 := Lib.hid (HB.out.setCell (p := ⟨g + 2, dv, none⟩) (show g ≤ g + 2 by omega) (.bool true))
        have HX1 := Lib.hid (VArr.setOther HX.out (p := ⟨g + 2, dv, none⟩) (by simp) (.bool true))
        have HY1 := Lib.hid (VArr.setOther HY.out (p := ⟨g + 2, dv, none⟩) (by simp) (.bool true))
        have HD1 := Lib.hid (show VArr 65 (wo.setCell ⟨g + 2, dv, none⟩ (.bool true)) (g + 2) ((dn.set dv true).map Value.bool) by
          have h := VArr.set_ HD.out dv (.bool true)
          rw [List.map_set]
          exact h)
        have HK1 := Lib.hid ((KB.refl (g + 3) wo).low ⟨g + 2, dv, none⟩ (by simp) (.bool true))
        clear HB HX HY HD c0 c1 f1 HXD HHV HDN
        have hz1 : wo.heap.size ≤ (wo.setCell ⟨g + 2, dv, none⟩ (.bool true)).heap.size := by simp
        generalize wo.setCell ⟨g + 2, dv, none⟩ (.bool true) = w1 at *
        have HB2 := Lib.hid (HB1.out.alloc (by omega) (.cells #[.int .i64 (dv : Int)] 3))
        have HX2 := Lib.hid (HX1.out.alloc (.cells #[.int .i64 (dv : Int)] 3))
        have HY2 := Lib.hid (HY1.out.alloc (.cells #[.int .i64 (dv : Int)] 3))
        have HD2 := Lib.hid (HD1.out.alloc (.cells #[.int .i64 (dv : Int)] 3))
        have HK2 := Lib.hid (HK1.out.alloc (.cells #[.int .i64 (dv : Int)] 3))
        have HP2 := Lib.hid (show IOwn (w1.alloc (.cells #[.int .i64 (dv : Int)] 3)) wo.heap.size (some ⟨w1.heap.size, 0, none⟩) 1 1 (([dv] : List Nat).map fun x : Nat => (x : Int)) from ⟨World.ownsRow_lit (size := 1) w1 #[.int .i64 (dv : Int)] 1 (by omega) (by decide) rfl, Nat.le_refl _⟩)
        clear HB1 HX1 HY1 HD1 HK1
        go_wp2_with fail
        go_loopw [11, 12, 13] (fun p i _ V => ∃ (iv m2 c2 : Nat) (A2 : Option Addr) (part : List Nat) (dn : List Bool), iv ≤ part.length ∧ i = .int .i64 (iv : Int) ∧ p = .slice A2 m2 c2 ∧ IOwn V wo.heap.size A2 m2 c2 (part.map fun x : Nat => (x : Int)) ∧ BfsI has both root dv dn part iv 1 ∧ KB (g + 3) wo.heap.size wo V ∧ Below g w V ∧ VArr 64 V g by_ ∧ VArr 65 V (g + 1) is_ ∧ VArr 65 V (g + 2) (dn.map Value.bool)) (fun _ i _ _ => 17 - (intOf i).toNat)
        case atStart => exact ⟨0, 1, 1, _, [dv], dn.set dv true, Nat.zero_le _, rfl, rfl, HP2.out, HBF.out, HK2.out, HB2.out, HX2.out, HY2.out, HD2.out⟩
        case round =>
          obtain ⟨iv, m2, c2, A2, part, dn2, hiv, rfl, rfl, hp, hbf, hk, hb, hx, hy, hd⟩ := hrel
          have HP := Lib.hid hp
          have HBF2 := Lib.hid hbf
          have HK := Lib.hid hk
          have HB := Lib.hid hb
          have HX := Lib.hid hx
          have HY := Lib.hid hy
          have HD := Lib.hid hd
          have HPL := Lib.hid (show part.length = m2 by have := hp.len; simpa using this)
          have hiv2 : iv ≤ m2 := by have := HPL.out; omega
          have hp17 : m2 ≤ 17 := by have := hbf.le HCX.out; have := HPL.out; omega
          clear hiv hp hbf hk hb hx hy hd HP2 HBF HK2 HB2 HX2 HY2 HD2
          by_cases hil : iv < m2
          · have i0 : (0 : Int) ≤ (iv : Int) := by omega
            have i1 : (iv : Int) < (m2 : Nat) := by omega
            go_wp2_with fail
            go_loopw [11, 13] (fun p q V => ∃ (kv m2 c2 : Nat) (A2 : Option Addr) (part : List Nat) (dn : List Bool), kv ≤ 17 ∧ q = .int .i64 (kv : Int) ∧ p = .slice A2 m2 c2 ∧ iv < part.length ∧ IOwn V wo.heap.size A2 m2 c2 (part.map fun x : Nat => (x : Int)) ∧ BfsI has both root dv dn part iv kv ∧ KB (g + 3) wo.heap.size wo V ∧ Below g w V ∧ VArr 64 V g by_ ∧ VArr 65 V (g + 1) is_ ∧ VArr 65 V (g + 2) (dn.map Value.bool)) (fun _ q _ => 17 - (intOf q).toNat)
            case atStart => exact ⟨1, m2, c2, A2, part, dn2, by omega, rfl, rfl, by have := HPL.out; omega, HP.out, HBF2.out, HK.out, HB.out, HX.out, HY.out, HD.out⟩
            case round =>
              clear HP HBF2 HK HB HX HY HD HPL hp17 i1 hil hiv2
              obtain ⟨kv, m3, c3, A3, part3, dn3, hkv, rfl, rfl, hil, hp, hbf, hk, hb, hx, hy, hd⟩ := hrel
              have HP := Lib.hid hp
              have HBF2 := Lib.hid hbf
              have HK := Lib.hid hk
              have HB := Lib.hid hb
              have HX := Lib.hid hx
              have HY := Lib.hid hy
              have HD := Lib.hid hd
              have HPL := Lib.hid (show part3.length = m3 by have := hp.len; simpa using this)
              have hp17 : m3 ≤ 17 := by have := hbf.le HCX.out; have := HPL.out; omega
              have HIL := Lib.hid hil
              have hil3 : iv < m3 := by have := HPL.out; omega
              have i1 : (iv : Int) < (m3 : Nat) := by omega
              clear hil
              have hzo := hk.1
              have hzg : g ≤ wr.heap.size := by omega
              clear hp hbf hk hb hx hy hd
              by_cases hk17 : kv < 17
              case neg =>
                obtain rfl : kv = 17 := by omega
                go_wp2_with fail
                go_roundw
                case rel => exact ⟨iv + 1, m3, c3, A3, part3, dn3, by have := HIL.out; omega, by go_num, rfl, HP.out, HBF2.out.next HCX.out, HK.out, HB.out, HX.out, HY.out, HD.out⟩
                case measure => simp [intOf]; omega
              have k0 : (0 : Int) ≤ (kv : Int) := by omega
              have k1 : (kv : Int) < 17 := by omega
              obtain ⟨p, hpv⟩ : ∃ p, part3[iv]? = some p := ⟨_, List.getElem?_eq_getElem HIL.out⟩
              have HPV := Lib.hid hpv
              have hpm := HCX.out.dev (HBF2.out.mem p (List.mem_of_getElem? hpv)).1
              have p0 : (0 : Int) ≤ (p : Int) := by omega
              have p1 : (p : Int) < 17 := by omega
              have c0 := VArr.cell HY.out (HIS.out kv hk17)
              obtain ⟨xd, hxd⟩ : ∃ xd, dn3[kv]? = some xd := ⟨_, List.getElem?_eq_getElem (by have := HBF2.out.len; omega)⟩
              have c1 := VArr.cell HD.out (j := kv) (x := .bool xd) (by rw [List.getElem?_map, hxd]; rfl)
              obtain ⟨hv, hhv⟩ : ∃ hv, has kv = hv := ⟨_, rfl⟩
              rw [hhv] at c0
              have HXD := Lib.hid hxd
              have HHV := Lib.hid hhv
              clear hxd hhv hpv
              go_upto_region 21 with fail
              cases hv with
              | false =>
                have HN := Lib.hid (HBF2.out.no HCX.out HPV.out (.inl HHV.out))
                go_quiet (fail)
                go_wp2_with fail
                go_roundw
                case rel => exact ⟨kv + 1, m3, c3, A3, part3, dn3, by omega, by go_num, rfl, HIL.out, HP.out, HN.out, HK.out.below (below_drewN (Below.refl _ _) _), below_drewN HB.out _, HX.out, HY.out, HD.out⟩
                case measure => simp [intOf]; omega
              | true =>
              cases xd with
              | true =>
                have HN := Lib.hid (HBF2.out.no HCX.out HPV.out (.inr (.inl HXD.out)))
                go_quiet (fail)
                go_wp2_with fail
                go_roundw
                case rel => exact ⟨kv + 1, m3, c3, A3, part3, dn3, by omega, by go_num, rfl, HIL.out, HP.out, HN.out, HK.out.below (below_drewN (Below.refl _ _) _), below_drewN HB.out _, HX.out, HY.out, HD.out⟩
                case measure => simp [intOf]; omega
              | false =>
              obtain ⟨gp, rfl⟩ := own_some HP.out.1 (by omega)
              have cp : wr.cell? ⟨gp, iv, none⟩ = some (.int .i64 (p : Int)) := by
                rw [HP.out.1.cellAt iv (by omega), List.getElem?_map, List.getElem?_map, HPV.out]
                rfl
              obtain ⟨ip, hip⟩ := HOS.out p (HBF2.out.mem p (List.mem_of_getElem? HPV.out)).1
              obtain ⟨iq, hiq⟩ := HOS.out kv HHV.out
              obtain ⟨adp, po, pa, pn, pc, prs, hA1, hxp, hrp, hnp, _, _⟩ := HR.out.at_ (show ip < k by rw [← HLN.out]; exact ofI_lt hip)
              obtain ⟨adq, qo, qa, qn, qc, qrs, hA2, hxq, hrq, hnq, _, _⟩ := HR.out.at_ (show iq < k by rw [← HLN.out]; exact ofI_lt hiq)
              have HBQ := Lib.hid (show both p kv = bothP (po, prs.map Rw.p) (qo, qrs.map Rw.p) f by
                rw [HBV.out, hip, hiq]
                simp only
                rw [getD_p hxp, getD_p hxq]
                rfl)
              have hcp : ∀ i u, ([.int .i64 po, .slice pa pn pc] : List Value)[i]? = some u → wr.cell? ⟨g, p * 2 + i, none⟩ = some u := fun i u hu => VArr.cell HX.out (by
                have hi : i < 2 := (List.getElem?_eq_some_iff.1 hu).1
                rw [← HBY.out, byL_at (by omega) hi, hip]
                unfold byC
                simp only
                rw [hxp]
                exact hu)
              have hcq : ∀ i u, ([.int .i64 qo, .slice qa qn qc] : List Value)[i]? = some u → wr.cell? ⟨g, kv * 2 + i, none⟩ = some u := fun i u hu => VArr.cell HX.out (by
                have hi : i < 2 := (List.getElem?_eq_some_iff.1 hu).1
                rw [← HBY.out, byL_at hk17 hi, hiq]
                unfold byC
                simp only
                rw [hxq]
                exact hu)
              have hS : wr.drew.cell? ⟨g + 1, kv, none⟩ = some (.bool true) ∧ wr.drew.cell? ⟨g + 2, kv, none⟩ = some (.bool false) ∧ wr.drew.cell? ⟨gp, iv, none⟩ = some (.int .i64 (p : Int)) ∧ wr.drew.cell? ⟨g, p * 2, none⟩ = some (.int .i64 po) ∧ wr.drew.cell? ⟨g, p * 2 + 1, none⟩ = some (.slice pa pn pc) ∧ wr.drew.cell? ⟨g, kv * 2, none⟩ = some (.int .i64 qo) ∧ wr.drew.cell? ⟨g, kv * 2 + 1, none⟩ = some (.slice qa qn qc) :=
                ⟨c0, c1, cp, hcp 0 _ rfl, hcp 1 _ rfl, hcq 0 _ rfl, hcq 1 _ rfl⟩
              have HRP := Lib.hid hrp
              have HRQ := Lib.hid hrq
              clear c0 c1 cp hcp hcq hip hiq hxp hxq hrp hrq hA1 hA2
              refine wp_region_text [(0, false), (1, false), (2, false), (3, false), (4, false), (5, false), (6, false), (7, false), (8, false), (9, false), (10, false), (11, false), (12, false), (13, false), (14, false), (15, false), (16, false), (17, false), (18, false), (19, false), (20, true), (21, false)] (fun V => V.cell? ⟨g + 1, kv, none⟩ = some (.bool true) ∧ V.cell? ⟨g + 2, kv, none⟩ = some (.bool false) ∧ V.cell? ⟨gp, iv, none⟩ = some (.int .i64 (p : Int)) ∧ V.cell? ⟨g, p * 2, none⟩ = some (.int .i64 po) ∧ V.cell? ⟨g, p * 2 + 1, none⟩ = some (.slice pa pn pc) ∧ V.cell? ⟨g, kv * 2, none⟩ = some (.int .i64 qo) ∧ V.cell? ⟨g, kv * 2 + 1, none⟩ = some (.slice qa qn qc)) (by kernel_rfl) (by kernel_rfl) (by kernel_rfl) (by kernel_rfl) (by kernel_rfl) (fun _ => ?_)
              simp only [outOf, List.getElem?_cons_zero, List.getElem?_cons_succ, Option.getD_some]
              have HB1 := Lib.hid (HB.out.drew)
              have HX1 := Lib.hid (show VArr 64 wr.drew g _ from HX.out)
              have HY1 := Lib.hid (show VArr 65 wr.drew (g + 1) _ from HY.out)
              have HD1 := Lib.hid (show VArr 65 wr.drew (g + 2) _ from HD.out)
              have HK1 := Lib.hid (HK.out.below (Below.drew (Below.refl _ _)))
              have HP1 := Lib.hid (show IOwn wr.drew wo.heap.size (some ⟨gp, 0, none⟩) m3 c3 _ from HP.out)
              have hz1 : wo.heap.size ≤ wr.drew.heap.size := hzo
              clear HB HX HY HD HK HP hzo hzg
              generalize wr.drew = w1 at *
              iterate 20 ((first | (refine TW.val2 (v := ?_) ?_ ?_ ?_ ?_ ?_; rotate_left; (focus rfl); (focus (intro W hSW; (try dsimp only at hSW); (try (obtain ⟨hS1, hSW⟩ := hSW)); (try (obtain ⟨hS2, hSW⟩ := hSW)); (try (obtain ⟨hS3, hSW⟩ := hSW)); (try (obtain ⟨hS4, hSW⟩ := hSW)); (try (obtain ⟨hS5, hSW⟩ := hSW)); (try (obtain ⟨hS6, hSW⟩ := hSW)); (try (obtain ⟨hS7, hSW⟩ := hSW)); (try (obtain ⟨hS8, hSW⟩ := hSW)); go_simp; (try with_reducible rfl); done)); (focus exact fun _ _ _ h => h); (focus assumption)) | (refine TW.skip (e := false) ?_ ?_ ?_ ?_; (focus rfl); (focus exact fun _ _ _ h => h); (focus assumption))); simp only [Act.put, List.setIfInBounds_toArray, List.set_cons_zero, List.set_cons_succ])
              refine TW.eff (by rfl) (fun K hK => ?_); go_simp
              refine (rboth_v po qo pa qa pn pc qn qc B prs qrs f w1 (HRP.out.below (HB1.out.mono hB)) (HRQ.out.below (HB1.out.mono hB)) (by omega) hnp hnq).mono ?_
              rintro e w2 ⟨rfl, b5⟩
              have hS2 := (⟨keepc b5 hS.1, keepc b5 hS.2.1, keepc b5 hS.2.2.1, keepc b5 hS.2.2.2.1, keepc b5 hS.2.2.2.2.1, keepc b5 hS.2.2.2.2.2.1, keepc b5 hS.2.2.2.2.2.2⟩ : w2.cell? ⟨g + 1, kv, none⟩ = some (.bool true) ∧ w2.cell? ⟨g + 2, kv, none⟩ = some (.bool false) ∧ w2.cell? ⟨gp, iv, none⟩ = some (.int .i64 (p : Int)) ∧ w2.cell? ⟨g, p * 2, none⟩ = some (.int .i64 po) ∧ w2.cell? ⟨g, p * 2 + 1, none⟩ = some (.slice pa pn pc) ∧ w2.cell? ⟨g, kv * 2, none⟩ = some (.int .i64 qo) ∧ w2.cell? ⟨g, kv * 2 + 1, none⟩ = some (.slice qa qn qc))
              have HB2 := Lib.hid (HB1.out.trans (b5.mono (by omega)))
              have HX2 := Lib.hid (HX1.out.below b5)
              have HY2 := Lib.hid (HY1.out.below b5)
              have HD2 := Lib.hid (HD1.out.below b5)
              have HK2 := Lib.hid (HK1.out.below b5)
              have HP2 := Lib.hid (HP1.out.below b5)
              have hz2 : wo.heap.size ≤ w2.heap.size := by have := b5.size; omega
              clear hS b5 HB1 HX1 HY1 HD1 HK1 HP1 hz1
              go_wp2_with fail; refine hK.out _ _ hS2 ?_; clear hK; (try simp only [Act.put, List.setIfInBounds_toArray, List.set_cons_zero, List.set_cons_succ])
              iterate 1 ((first | (refine TW.val2 (v := ?_) ?_ ?_ ?_ ?_ ?_; rotate_left; (focus rfl); (focus (intro W hSW; (try dsimp only at hSW); (try (obtain ⟨hS1, hSW⟩ := hSW)); (try (obtain ⟨hS2, hSW⟩ := hSW)); (try (obtain ⟨hS3, hSW⟩ := hSW)); (try (obtain ⟨hS4, hSW⟩ := hSW)); (try (obtain ⟨hS5, hSW⟩ := hSW)); (try (obtain ⟨hS6, hSW⟩ := hSW)); (try (obtain ⟨hS7, hSW⟩ := hSW)); (try (obtain ⟨hS8, hSW⟩ := hSW)); go_simp; (try with_reducible rfl); done)); (focus exact fun _ _ _ h => h); (focus assumption)) | (refine TW.skip (e := false) ?_ ?_ ?_ ?_; (focus rfl); (focus exact fun _ _ _ h => h); (focus assumption))); simp only [Act.put, List.setIfInBounds_toArray, List.set_cons_zero, List.set_cons_succ])
              refine TW.done ?_
              cases hbp : bothP (po, prs.map Rw.p) (qo, qrs.map Rw.p) f with
              | false =>
                have HN := Lib.hid (HBF2.out.no HCX.out HPV.out (.inr (.inr (HBQ.out.trans hbp))))
                clear hbp hS2
                go_wp2_with fail
                go_roundw
                case rel => exact ⟨kv + 1, m3, c3, _, part3, dn3, by omega, by go_num, rfl, HIL.out, HP2.out, HN.out, HK2.out, HB2.out, HX2.out, HY2.out, HD2.out⟩
                case measure => simp [intOf]; omega
              | true =>
                have HN := Lib.hid (HBF2.out.yes HCX.out HPV.out (by rw [HXD.out]; simp) (HBQ.out.trans hbp))
                have c1 := hS2.2.1
                have f1 := VArr.frozen HD2.out kv
                have HB3 := Lib.hid (HB2.out.setCell (p := ⟨g + 2, kv, none⟩) (show g ≤ g + 2 by omega) (.bool true))
                have HX3 := Lib.hid (VArr.setOther HX2.out (p := ⟨g + 2, kv, none⟩) (by simp) (.bool true))
                have HY3 := Lib.hid (VArr.setOther HY2.out (p := ⟨g + 2, kv, none⟩) (by simp) (.bool true))
                have HD3 := Lib.hid (show VArr 65 (w2.setCell ⟨g + 2, kv, none⟩ (.bool true)) (g + 2) ((dn3.set kv true).map Value.bool) by
                  have h := VArr.set_ HD2.out kv (.bool true)
                  rw [List.map_set]
                  exact h)
                have HK3 := Lib.hid (HK2.out.low ⟨g + 2, kv, none⟩ (by simp) (.bool true))
                have HP3 := Lib.hid (HP2.out.keep (w' := w2.setCell ⟨g + 2, kv, none⟩ (.bool true)) fun j hj => Below.heap_setCell w2 _ _ j (by have := (HP2.out.lt j hj).1; show j ≠ g + 2; omega))
                have hz3 : w2.heap.size ≤ (w2.setCell ⟨g + 2, kv, none⟩ (.bool true)).heap.size := by simp
                clear hbp hS2
                go_upto_region 23 with fail
                clear HB2 HX2 HY2 HD2 HK2 HP2 c1 f1
                generalize w2.setCell ⟨g + 2, kv, none⟩ (.bool true) = w3 at *
                have HSO := Lib.hid (show IReads (w3.alloc (.cells #[.int .i64 (kv : Int)] 3)) (w3.heap.size + 1) (some ⟨w3.heap.size, 0, none⟩) 1 [(kv : Int)] from Reads.one_ 3 w3 _)
                have HPA := Lib.hid (HP3.out.alloc (.cells #[.int .i64 (kv : Int)] 3))
                have HBA := Lib.hid (HB3.out.alloc (show g ≤ w3.heap.size by omega) (.cells #[.int .i64 (kv : Int)] 3))
                have HXA := Lib.hid (HX3.out.alloc (.cells #[.int .i64 (kv : Int)] 3))
                have HYA := Lib.hid (HY3.out.alloc (.cells #[.int .i64 (kv : Int)] 3))
                have HDA := Lib.hid (HD3.out.alloc (.cells #[.int .i64 (kv : Int)] 3))
                have HKA := Lib.hid (HK3.out.alloc (.cells #[.int .i64 (kv : Int)] 3))
                have hblk := HPA.out.lt
                go_wp2_with (first
                  | (at_builtin; go_loud (refine wpList_appI rfl (.tmp 112) (.tmp 114) rfl wo.heap.size (some ⟨gp, 0, none⟩) m3 c3 _ rfl HPA.out (w3.heap.size + 1) (some ⟨w3.heap.size, 0, none⟩) 1 1 [(kv : Int)] rfl HSO.out (m3 + 1) _ rfl rfl (by omega) (by simp; omega) ?_); intro A8 c8 w8 ho8 hg8 hat8)
                  | fail)
                have HB8 := Lib.hid (HBA.out.grown hg8 (by simp; omega) (fun j e => by have := (hblk j e).1; omega))
                have HX8 := Lib.hid (HXA.out.keep (hg8.block g HXA.out.lt (fun e => by have := (hblk g e.symm).1; omega)))
                have HY8 := Lib.hid (HYA.out.keep (hg8.block (g + 1) HYA.out.lt (fun e => by have := (hblk (g + 1) e.symm).1; omega)))
                have HD8 := Lib.hid (HDA.out.keep (hg8.block (g + 2) HDA.out.lt (fun e => by have := (hblk (g + 2) e.symm).1; omega)))
                have HK8 := Lib.hid (HKA.out.grown hg8 (fun j e => (hblk j e).1))
                have HO8 := Lib.hid ho8
                go_roundw
                case rel => exact ⟨kv + 1, m3 + 1, c8, A8, part3 ++ [kv], dn3.set kv true, by omega, by go_num, rfl, by rw [List.length_append]; have := HIL.out; omega, by have h := HO8.out; rw [List.map_append]; exact h, HN.out, HK8.out, HB8.out, HX8.out, HY8.out, HD8.out⟩
                case measure => simp [intOf]; omega
          · obtain rfl : m2 = iv := by omega
            have HBF3 := Lib.hid (show BfsI has both root dv dn2 part part.length 1 by rw [HPL.out]; exact HBF2.out)
            have HSP := Lib.hid (HBF3.out.sorted HCX.out)
            have HBK := Lib.hid (HBF3.out.back HCX.out)
            have HZ := Lib.hid HK.out.1
            go_wp2_with fail
            go_loopw [14, 15] (fun s i V => ∃ (j m3 c3 : Nat) (A3 : Option Addr), j ≤ m2 ∧ i = .int .i64 (j : Int) ∧ s = .slice A3 m3 c3 ∧ IOwn V wo.heap.size A3 m3 c3 (sortP (part.take j)) ∧ IOwn V wo.heap.size A2 m2 c2 (part.map fun x : Nat => (x : Int)) ∧ KB (g + 3) wo.heap.size wo V ∧ Below g w V ∧ VArr 64 V g by_ ∧ VArr 65 V (g + 1) is_ ∧ VArr 65 V (g + 2) (dn2.map Value.bool)) (fun _ i _ => m2 - (intOf i).toNat)
            case atStart => exact ⟨0, 0, 0, none, Nat.zero_le _, rfl, rfl, IOwn.nil_ _ _, HP.out, HK.out, HB.out, HX.out, HY.out, HD.out⟩
            case round =>
              clear HP HK HB HX HY HD HZ
              obtain ⟨j, m3, c3, A3, hj, rfl, rfl, hs, hp, hk, hb, hx, hy, hd⟩ := hrel
              have HS := Lib.hid hs
              have HP := Lib.hid hp
              have HK := Lib.hid hk
              have HB := Lib.hid hb
              have HX := Lib.hid hx
              have HY := Lib.hid hy
              have HD := Lib.hid hd
              have hzo := hk.1
              have hm3 : m3 ≤ 17 := by have h1 := hs.len; have h2 := HPL.out; rw [sortP_len _ _ rfl, List.length_take] at h1; omega
              clear hs hp hk hb hx hy hd
              by_cases hjl : j < m2
              · obtain ⟨gp, rfl⟩ := own_some HP.out.1 (by omega)
                obtain ⟨x, hxv⟩ : ∃ x, part[j]? = some x := ⟨_, List.getElem?_eq_getElem (by have := HPL.out; omega)⟩
                have cp : wr.cell? ⟨gp, j, none⟩ = some (.int .i64 (x : Int)) := by
                  rw [HP.out.1.cellAt j (by omega), List.getElem?_map, List.getElem?_map, hxv]
                  rfl
                have HSN := Lib.hid (show insR (x : Int) (sortP (part.take j)) = sortP (part.take (j + 1)) by rw [List.take_add_one, hxv]; exact (sortP_snoc _ _).symm)
                have j0 : (0 : Int) ≤ (j : Int) := by omega
                have j1 : (j : Int) < (m2 : Nat) := by omega
                clear hxv
                go_wp2_with fail
                refine (rwithd_v A3 m3 c3 wr.heap.size (sortP (part.take j)) (x : Int) wr HS.out.reads (Nat.le_refl _) (by omega)).mono ?_
                rintro e w2 ⟨A4, m4, c4, rfl, ho4, b4⟩
                have HO4 := Lib.hid (ho4.down hzo)
                rw [HSN.out] at HO4
                have HP4 := Lib.hid (HP.out.below b4)
                have HB4 := Lib.hid (HB.out.trans (b4.mono (by omega)))
                have HX4 := Lib.hid (HX.out.below b4)
                have HY4 := Lib.hid (HY.out.below b4)
                have HD4 := Lib.hid (HD.out.below b4)
                have HK4 := Lib.hid (HK.out.below b4)
                clear ho4 b4 cp
                go_wp2_with fail
                go_roundw
                case rel => exact ⟨j + 1, m4, c4, A4, hjl, by go_num, rfl, HO4.out, HP4.out, HK4.out, HB4.out, HX4.out, HY4.out, HD4.out⟩
                case measure => simp [intOf]; omega
              · have HS2 := Lib.hid (show IOwn wr (g + 3) A3 m3 c3 (membP has root 17 dv) by
                  have h := HS.out
                  rw [List.take_of_length_le (by have := HPL.out; omega), HSP.out] at h
                  exact h.down (by omega))
                have HO2 := Lib.hid (HO.out.kb HK.out)
                go_upto_region 29 with fail
                have HSN := Lib.hid (show Reads (wr.alloc (.cells #[.slice A3 m3 c3] 35)) (wr.heap.size + 1) 1 (some ⟨wr.heap.size, 0, none⟩) 1 [.slice A3 m3 c3] from Reads.one_ 35 wr _)
                have HOA := Lib.hid (HO2.out.keep (V' := wr.alloc (.cells #[.slice A3 m3 c3] 35)) fun j _ hj => Below.heap_alloc wr _ j hj)
                have HSA := Lib.hid (HS2.out.alloc (.cells #[.slice A3 m3 c3] 35))
                have HBA := Lib.hid (HB.out.alloc (show g ≤ wr.heap.size by omega) (.cells #[.slice A3 m3 c3] 35))
                have HXA := Lib.hid (HX.out.alloc (.cells #[.slice A3 m3 c3] 35))
                have HYA := Lib.hid (HY.out.alloc (.cells #[.slice A3 m3 c3] 35))
                have HDA := Lib.hid (HD.out.alloc (.cells #[.slice A3 m3 c3] 35))
                have hblk := HOA.out.row.lt
                go_wp2_with (first
                  | (at_builtin; go_loud (refine wpList_appO rfl (.tmp 128) (.tmp 130) rfl (g + 3) A' m c' ls ⟨A3, m3, c3, membP has root 17 dv⟩ rfl HOA.out HSA.out (wr.heap.size + 1) (some ⟨wr.heap.size, 0, none⟩) rfl HSN.out (by omega) (by simp; omega) ?_); intro A8 c8 w8 ho8 hg8)
                  | fail)
                have hs8 := hg8.size
                have hz8 : g + 3 ≤ w8.heap.size := by simp at hs8; omega
                have HB8 := Lib.hid (HBA.out.grown hg8 (by simp; omega) (fun j e => by have := (hblk j e).1; omega))
                have HX8 := Lib.hid (HXA.out.keep (hg8.block g HXA.out.lt (fun e => by have := (hblk g e.symm).1; omega)))
                have HY8 := Lib.hid (HYA.out.keep (hg8.block (g + 1) HYA.out.lt (fun e => by have := (hblk (g + 1) e.symm).1; omega)))
                have HD8 := Lib.hid (HDA.out.keep (hg8.block (g + 2) HDA.out.lt (fun e => by have := (hblk (g + 2) e.symm).1; omega)))
                have HO8 := Lib.hid ho8
                go_roundw
                case rel => exact ⟨dv + 1, m + 1, c8, A8, _, dn2, by omega, by go_num, rfl, by omega, HO8.out, by rw [HN2.out, List.map_append, List.map_append, HDS.out]; rfl, HBK.out, HB8.out, hz8, HX8.out, HY8.out, HD8.out⟩
                case measure => simp [intOf]; omega
end Go.Proofs.Ytikegnnlmfidfaa
