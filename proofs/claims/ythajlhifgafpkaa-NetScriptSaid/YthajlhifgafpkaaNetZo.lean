/-
  Nets: Flight, with the bytes.
-/
import Derived.Test.YthajlhifgafpkaaNetZn
import Derived.Test.YthajlhifgafpkaaNetRi
import Derived.RangeFuncBox
namespace Go.Proofs.Ythajlhifgafpkaa
open Go.RowKit Go.Shelf
attribute [local go_sem] Oper.semAt_some
/-- The bytes of these packets lie where they should, each in a block of its own. -/
def BytesOk (b : Nat) (xs : List PkV) (W : World) : Prop := ∀ u ∈ xs, BOwn W (b + 1) u.a u.len u.cap u.pk.bytes ∧ u.len ≤ 262144
section
variable {W W' : World} {b n c : Nat} {A : Option Addr} {xs ys : List PkV}
theorem BytesOk.below (h : BytesOk b xs W) (hb : Below W.heap.size W W') : BytesOk b xs W' := fun u hu => ⟨(h u hu).1.below hb, (h u hu).2⟩
theorem BytesOk.from_ {row : Option Nat} (h : BytesOk b xs W) (hg : W.grownBy W' row) (hr : ∀ r, row = some r → ∃ o : Obj, W.heap[r]? = some o ∧ o.isCells = false) : BytesOk b xs W' := fun u hu =>
  ⟨(h u hu).1.keep fun j hj => hg.block j ((h u hu).1.base_le j hj).2 (fun e => by
    obtain ⟨o, ho, hco⟩ := hr j e.symm
    obtain ⟨cur, hc⟩ := (h u hu).1.isCells hj
    rw [hc] at ho
    cases ho
    cases hco), (h u hu).2⟩
theorem BytesOk.grownRow (h : BytesOk b xs W) {base : Nat} (ho : W.ownsRow base 34 5 (.slice A n c) n (ys.flatMap PkV.cells)) (hg : W.grownBy W' (Value.slice A n c).ownBlock) : BytesOk b xs W' := fun u hu =>
  ⟨(h u hu).1.keep fun j hj => hg.block j ((h u hu).1.base_le j hj).2 fun e => by
    obtain ⟨cur, hc⟩ := (h u hu).1.isCells hj
    obtain ⟨cur2, hc2⟩ := own_cells' ho e.symm
    rw [hc] at hc2
    simp at hc2, (h u hu).2⟩
theorem BytesOk.setBox (h : BytesOk b xs W) (v : Value) : BytesOk b xs (W.setCell ⟨b, 0, none⟩ v) := fun u hu =>
  ⟨(h u hu).1.keep fun j hj => Below.heap_setCell W _ _ j (by have := ((h u hu).1.base_le j hj).1; show j ≠ b; omega), (h u hu).2⟩
end
set_option maxRecDepth 100000 in
set_option maxHeartbeats 4000000 in
theorem append_all (b g n c base : Nat) (A : Option Addr) (vs : List PkV) (w : World) (hb : b < w.heap.size) (hg : g < w.heap.size) (cb : w.cell? ⟨b, 0, none⟩ = some (.pointer (some ⟨g, 0, none⟩))) (cg : w.cell? ⟨g, 1, none⟩ = some (.slice A n c))
    (hrow : PkRow w base A n c vs) (hn : n ≤ 4096) :
    Calls Try.prog 58 #[.slice none 0 0, .func (.func 59) #[] #[.pointer (some ⟨b, 0, none⟩)]] w fun e w' => ∃ A' c', e = .returned (.slice A' n c') ∧ FlB w' w.heap.size A' n c' (vs.map (·.pk)) ∧ Below w.heap.size w w' := by
  have HSEQ := Lib.hid (packs_all b g n c base A vs w 8 hb hg cb cg hrow hn)
  have HLN := Lib.hid hrow.len
  have HI := Lib.hid (show (Try.prog.info? 34).map (·.size) = some 5 by kernel_rfl)
  clear hb hg cb cg hrow
  refine (callsIn_wide (n := 9)).1 ?_
  refine callsIn_of_wp_marks Try.func58 rfl trivial ?_ rfl
  simp only [Try.ntmps58, List.size_toArray, List.length_cons, List.length_nil, Nat.reduceAdd, Nat.reduceSub, Array.replicate_succ, Array.replicate_zero, List.push_toArray, List.append_toArray, List.nil_append, List.cons_append]
  gi_wp2_with fail
  have BA := Lib.hid ((Below.refl w.heap.size w).alloc (Nat.le_refl _) (.cells #[.slice none 0 0] 44))
  have BX := Boxed.new w 44 (.slice none 0 0)
  have hz : (w.alloc (.cells #[.slice none 0 0] 44)).heap.size = w.heap.size + 1 := by simp
  generalize w.alloc (.cells #[.slice none 0 0] 44) = w1 at *
  refine wpIn_range_all rfl (by omega) (gf := 59) (lb := #[.pointer (some ⟨b, 0, none⟩)]) rfl trivial (enters_of Try.func59 (by kernel_rfl) rfl)
    HSEQ.out (fun h k => h.trans k) (fun W l o o' hl h h1 h2 => (belowK_b (w := w1) (Nat.le_refl _) W l o o' hl h h1 h2).mono (by omega)) BA.out (fun _ => rfl)
    (fun pre W => (∃ v, Boxed W w.heap.size 44 v ∧ W.ownsRow w.heap.size 34 5 v pre.length (pre.flatMap PkV.cells) ∧ True) ∧ Below w.heap.size w W ∧ w1.heap.size ≤ W.heap.size ∧ BytesOk w.heap.size pre W)
    (fun pre W W' row h hg hr => ?own) ⟨⟨_, BX, World.ownsRow_nil w1 _ _ 5, trivial⟩, BA.out, Nat.le_refl _, fun u hu => by cases hu⟩
    (fun x a' W => ∃ j, w.heap.size < j ∧ a' = ({ tmps := #[.slice none 0 0, .func (.func 59) #[] #[.pointer (some ⟨b, 0, none⟩)], .pointer (some ⟨w.heap.size, 0, none⟩), undef, .slice none 0 0, .pointer (some ⟨j, 0, none⟩), .func (.func 59) #[] #[.pointer (some ⟨b, 0, none⟩)], .agg x.cells.toArray, undef, undef, undef, undef, undef], defers := [] } : Act) ∧ W.heap[j]? = some (.cells x.cells.toArray 34 (0, 0)) ∧ BytesOk w.heap.size [x] W)
    (fun x a' _ W W' row h hg hr => ?ax) ?assign ?body ?done
  case ax =>
    obtain ⟨j, hj, e, hc, hby⟩ := h
    refine ⟨j, hj, e, (hg.block j (Array.getElem?_eq_some_iff.1 hc).1 (fun e2 => ?_)).trans hc, hby.from_ hg fun r e => (hr r e).2⟩
    obtain ⟨_, o, ho, hco⟩ := hr j e2.symm
    rw [hc] at ho
    cases ho
    cases hco
  case assign =>
    rintro l pre x W K ⟨⟨v, hbx, hown, _⟩, hbw, hsz, hby⟩ hYx hK
    have Z0 := Lib.hid (heap_alloc_new W (.cells #[.int .u64 0, .int .i64 0, .int .i64 0, .int .u64 0, .slice none 0 0] 34))
    have Z1 := Lib.hid (setRow_heap _ W.heap.size _ x.cells.toArray _ _ Z0.out)
    have BZ := Lib.hid (below_setRow ((Below.refl W.heap.size W).alloc (Nat.le_refl _) (.cells #[.int .u64 0, .int .i64 0, .int .i64 0, .int .u64 0, .slice none 0 0] 34)) (Nat.le_refl _) x.cells.toArray)
    gi_wp2_with (first
      | (refine wpListIn_store_row rfl 34 (.tmp 5) (.tmp 7) rfl W.heap.size x.cells.toArray rfl rfl 34 _ Z0.out HI.out rfl (PkV.all1 x) ?_)
      | fail)
    have hg := below_grown BZ.out
    exact hK _ _ (KeepsFrom.of_grownBy hg (fun j e => by cases e)) (BZ.out.mono (by omega))
      ⟨⟨v, hbx.kept hg (by simp), own_keep hown (fun j hj => BZ.out.block j (hown.lt j hj).2), trivial⟩, hbw.trans (BZ.out.mono (by omega)), Nat.le_trans hsz BZ.out.size, hby.below BZ.out⟩
      ⟨W.heap.size, by omega, rfl, Z1.out, BytesOk.below (fun u hu => by rw [List.mem_singleton.1 hu]; exact hYx) BZ.out⟩
  case own =>
    obtain ⟨h1, h2, h3, h4⟩ := h
    refine ⟨holdsRow_own w.heap.size w.heap.size 44 34 5 List.length (fun p => p.flatMap PkV.cells) (fun _ _ => True) pre W W' row h1 hg (fun r e => (hr r e).2), h2.grown hg (by omega) (fun k hk => by have := (hr k hk).1; omega), Nat.le_trans h3 hg.size, h4.from_ hg fun r e => (hr r e).2⟩
  case body =>
    rintro r pre x a' W _ ⟨⟨v, hbx, hown, _⟩, hbw, hsz, hby⟩ ⟨j, hj, rfl, hc, hbx1⟩ hlen
    have HBY := Lib.hid (show BytesOk w.heap.size (pre ++ [x]) W from fun u hu => (List.mem_append.1 hu).elim (hby u) (hbx1 u))
    clear hby hbx1
    obtain ⟨A0, cc0, rfl, _⟩ := own_shape hown
    have c0 := hbx.cell
    have HJ := Lib.hid hc
    have HO := Lib.hid hown
    have HX := Lib.hid hbx
    have hWs : w.heap.size ≤ W.heap.size := by omega
    obtain ⟨i0, hi, hy0, hy1, hy2⟩ := info_parts info_pk
    clear hc hown
    gi_wp2_with (first
      | (refine wpListIn_load_row rfl 34 (.tmp 5) rfl j rfl 34 x.cells.toArray (0, 0) _ HJ.out Try.underlying34 rfl HI.out ?_)
      | (refine wpListIn_append_own (W.alloc (.cells x.cells.toArray 34)) rfl (.tmp 8) (.tmp 10) 44 rfl w.heap.size 34 i0 _ 5 56 Try.underlying44 hi hy0 hy1 hy2 rfl (by decide) (.slice A0 pre.length cc0) pre.length (pre.flatMap PkV.cells) rfl (HO.out.alloc _) ⟨W.heap.size, 0, none⟩ 1 1 x.cells rfl rfl
          (fun j u hu => by rw [add_lit2, Nat.zero_add, heap_cell (heap_alloc_new W _)]; simpa using hu) (by intro u hu; have := PkV.all1 x; simp only [Array.all_eq_true_iff_forall_mem, List.mem_toArray] at this; exact this u hu) (by simp only [maxLen]; omega) (by omega) (by simp; omega) ?_
         intro v' w3 hown3 hgr3 _
         obtain ⟨g3, cap3, rfl⟩ := ownsRow_succ hown3
         obtain ⟨k1, k2, k3, k4, k5⟩ := Boxed.appended HX.out (by decide) HO.out hWs (Nat.le_refl _) hown3 hgr3
         have K2 := Lib.hid k2
         have K3 := Lib.hid k3
         have K4 := Lib.hid k4
         have K5 := Lib.hid k5
         have K6 := Lib.hid (((HBY.out.below ((Below.refl W.heap.size W).alloc (Nat.le_refl _) (.cells x.cells.toArray 34))).grownRow (HO.out.alloc _) hgr3).setBox (.slice (some ⟨g3, 0, none⟩) (pre.length + 1) cap3))
         have c3 := k1.cell
         have f3 := k1.frozen
         clear k1 k2 k3 k4 k5 hown3 hgr3)
      | fail)
    (focus (exfalso; have h5 := PkV.cells_len x; omega))
    have K : (w3.setCell ⟨w.heap.size, 0, none⟩ (.slice (some ⟨g3, 0, none⟩) (pre.length + 1) cap3)).ownsRow w.heap.size 34 5 (.slice (some ⟨g3, 0, none⟩) (pre.length + 1) cap3) (pre ++ [x]).length ((pre ++ [x]).flatMap PkV.cells) := by
      rw [List.length_append, List.flatMap_append]
      simpa using K3.out
    unfold allPost
    exact ⟨rfl, K4.out.from _, K5.out, ⟨_, K2.out, K, trivial⟩, hbw.trans K5.out, Nat.le_trans hsz K4.out.size, K6.out⟩
  case done =>
    rintro D xs W hD hS ⟨⟨v, hbx, hown, _⟩, hbw, hsz, hby⟩ hK
    obtain ⟨A0, cc0, rfl, hcc0⟩ := own_shape hown
    have c0 := hbx.cell
    have hxl : xs.length = n := by
      have := congrArg List.length hS
      simp at this
      rw [this, HLN.out]
    gi_wp2_with fail
    refine ⟨by simp, .inl ⟨_, _, rfl, run_takeDeferred hK, ?_⟩⟩
    refine ⟨_, results_tmp rfl _ _ _, A0, cc0, by rw [← hxl]; rfl, ⟨xs, ⟨?_, by rw [← hxl]; exact hcc0, fun u hu => ?_⟩, hS⟩, ?_⟩
    · rw [← hxl]
      exact ownsRow_putObj hown _ hK rfl
    · exact ⟨((hby u hu).1.keep (fun i hi => World.putObj_heap_other (fun e => by
        obtain ⟨cur, hc⟩ := (hby u hu).1.isCells hi
        rw [e, hK] at hc
        simp at hc))).down (Nat.le_succ _), (hby u hu).2⟩
    · exact hbw.trans ((belowK_b (w := w1) (Nat.le_refl _) _ D _ _ (by omega) hK rfl rfl).mono (by omega))
set_option maxHeartbeats 2000000 in
/-- What is in flight. -/
theorem flight_all {base g mb n c : Nat} {A : Option Addr} {vs : List PkV} {s : NS} (w : World) (h : NetIs w base g mb A n c vs s) (hn : n ≤ 4096) :
    Calls Try.prog 17 #[.pointer (some ⟨g, 0, none⟩)] w fun e w' => ∃ A' c', e = .returned (.slice A' n c') ∧ FlB w' w.heap.size A' n c' s.fl ∧ Below w.heap.size w w' := by
  have H := Lib.hid h
  have c1 := h.c1
  have hgl := h.lt
  clear h
  go_enter Try.func17, Try.ntmps17
  go_wp2_with fail
  refine (right_v w H.out).mono ?_
  rintro e _ ⟨rfl, rfl⟩
  have PV : Calls Try.prog 42 #[.pointer (some ⟨g, 0, none⟩)] w fun e w' => e = .returned (.func (.func 59) #[] #[.pointer (some ⟨w.heap.size, 0, none⟩)]) ∧ w' = w.alloc (.cells #[.pointer (some ⟨g, 0, none⟩)] 24) := by
    clear H c1 hgl
    go_enter Try.func42, Try.ntmps42
    go_wp2
    go_ret
    exact ⟨rfl, rfl⟩
  go_wp2_with fail
  refine PV.mono ?_
  rintro e w1 ⟨rfl, rfl⟩
  have BA := Lib.hid ((Below.refl w.heap.size w).alloc (Nat.le_refl _) (.cells #[.pointer (some ⟨g, 0, none⟩)] 24))
  have cb := cell_new w #[.pointer (some ⟨g, 0, none⟩)] 24 0
  have cg := (cell_old w (.cells #[.pointer (some ⟨g, 0, none⟩)] 24) g 1 hgl).trans c1
  have hz : (w.alloc (.cells #[.pointer (some ⟨g, 0, none⟩)] 24)).heap.size = w.heap.size + 1 := by simp
  have AV := Lib.hid (append_all w.heap.size g n c base A vs (w.alloc (.cells #[.pointer (some ⟨g, 0, none⟩)] 24)) (by omega) (by omega) cb cg (H.out.hf.below BA.out) hn)
  clear cb cg PV
  generalize w.alloc (.cells #[.pointer (some ⟨g, 0, none⟩)] 24) = w1 at *
  have CV : Calls Try.prog 41 #[.func (.func 59) #[] #[.pointer (some ⟨w.heap.size, 0, none⟩)]] w1 fun e w' => ∃ A' c', e = .returned (.slice A' n c') ∧ FlB w' w1.heap.size A' n c' (vs.map (·.pk)) ∧ Below w1.heap.size w1 w' := by
    clear H c1 hgl BA
    go_enter Try.func41, Try.ntmps41
    go_wp2_with fail
    refine AV.out.mono ?_
    rintro e w2 ⟨A', c', rfl, ho, hb⟩
    have HO := Lib.hid ho
    clear ho
    go_wp2
    go_ret
    exact ⟨A', c', rfl, HO.out, hb⟩
  go_wp2_with fail
  refine CV.mono ?_
  rintro e w2 ⟨A', c', rfl, ⟨xs, ho, hx⟩, hb⟩
  have HO := Lib.hid (show FlB w2 w.heap.size A' n c' s.fl from ⟨xs, ⟨own_down ho.row (by omega), ho.hc, fun u hu => ⟨(ho.bytes u hu).1.down (by omega), (ho.bytes u hu).2⟩⟩, hx.trans H.out.hv⟩)
  clear ho hx
  go_wp2
  go_ret
  exact ⟨A', c', rfl, HO.out, BA.out.trans (hb.mono (by omega))⟩
end Go.Proofs.Ythajlhifgafpkaa
