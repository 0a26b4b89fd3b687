/-
  Matrices: a device found in a sorted row; clones; a matrix copied.
-/
import Derived.Test.YtikegnnlmfidfaaMatH
import Derived.Test.YtikegnnlmfidfaaTextF
namespace Go.Proofs.Ytikegnnlmfidfaa
open Go.RowKit
/-- An owned row of integers. -/
def IOwn (w : World) (base : Nat) (A : Option Addr) (n c : Nat) (l : List Int) : Prop := w.ownsRow base 3 1 (.slice A n c) n (l.map (Value.int .i64)) ∧ n ≤ c
section
variable {w w' : World} {base base' n c : Nat} {A : Option Addr} {l : List Int}
theorem IOwn.reads (h : IOwn w base A n c l) : IReads w w.heap.size A n l := Reads.of_own h.1
theorem IOwn.nil_ (w : World) (base : Nat) : IOwn w base none 0 0 [] := ⟨World.ownsRow_nil w base _ 1, Nat.le_refl _⟩
theorem IOwn.lt (h : IOwn w base A n c l) : ∀ j, (Value.slice A n c).ownBlock = some j → base ≤ j ∧ j < w.heap.size := h.1.lt
theorem IOwn.alloc (h : IOwn w base A n c l) (o : Obj) : IOwn (w.alloc o) base A n c l := ⟨h.1.alloc o, h.2⟩
theorem IOwn.keep (h : IOwn w base A n c l) (hk : ∀ j, (Value.slice A n c).ownBlock = some j → w'.heap[j]? = w.heap[j]?) : IOwn w' base A n c l := ⟨own_keep h.1 hk, h.2⟩
theorem IOwn.below (h : IOwn w base A n c l) (hb : Below w.heap.size w w') : IOwn w' base A n c l := h.keep fun j hj => hb.block j (h.lt j hj).2
theorem own_down {K : Nat} {e : TypeId} {v : Value} {xs : List Value} (h : w.ownsRow base e K v n xs) (hb : base' ≤ base) : w.ownsRow base' e K v n xs := by
  refine ⟨h.1, ?_⟩
  rcases h.2 with hn | ⟨g, cap, cur, ev, hg, rest⟩
  · exact .inl hn
  · exact .inr ⟨g, cap, cur, ev, Nat.le_trans hb hg, rest⟩
theorem IOwn.down (h : IOwn w base A n c l) (hb : base' ≤ base) : IOwn w base' A n c l := ⟨own_down h.1 hb, h.2⟩
theorem IOwn.len (h : IOwn w base A n c l) : l.length = n := by have := h.1.1; simpa using this
theorem IOwn.cm (h : IOwn w base A n c l) : c ≤ 9223372036854775807 := by
  rcases h.1.2 with ⟨hh, h0⟩ | ⟨g, cap', cur, hh, _, _, _, h2, _⟩
  · simp only [Value.slice.injEq] at hh; omega
  · simp only [Value.slice.injEq, maxLen] at hh h2; omega
theorem own_cells {K : Nat} {e : TypeId} {v : Value} {xs : List Value} (h : w.ownsRow base e K v n xs) {j : Nat} (hj : v.ownBlock = some j) : ∃ cur fr, w.heap[j]? = some (.cells cur e fr) := by
  rcases h.2 with ⟨hn, _⟩ | ⟨g, cap, cur, ev, _, hh, _⟩
  · rw [hn] at hj; cases hj
  · rw [ev] at hj
    injection hj with hj
    subst hj
    exact ⟨cur, _, hh⟩
end
theorem int1 (l : List Int) : ∀ u ∈ l.map (Value.int .i64), u.oneCell' = true := fun u hu => by obtain ⟨y, _, rfl⟩ := List.mem_map.1 hu; rfl
theorem row1 (rs : List Rw) : ∀ u ∈ rs.flatMap Rw.cells, u.oneCell' = true := fun u hu => by
  obtain ⟨r, _, hr⟩ := List.mem_flatMap.1 hu
  simp only [Rw.cells, List.mem_cons, List.not_mem_nil, or_false] at hr
  rcases hr with rfl | rfl <;> rfl
set_option maxRecDepth 100000 in
theorem nan1_v (x : Int) (w : World) : Calls Try.prog 66 #[.int .i64 x] w fun e w' => e = .returned (.bool false) ∧ w = w' := by
  go_enter Try.func66, Try.ntmps66
  have d1 : (x != x) = false := by simp
  go_wp2_with fail
  go_ret
  exact ⟨rfl, rfl⟩
set_option maxRecDepth 100000 in
theorem nan2_v (x : Int) (w : World) : Calls Try.prog 72 #[.int .i64 x] w fun e w' => e = .returned (.bool false) ∧ w = w' := by
  go_enter Try.func72, Try.ntmps72
  have d1 : (x != x) = false := by simp
  go_wp2_with fail
  go_ret
  exact ⟨rfl, rfl⟩
set_option maxRecDepth 100000 in
theorem less_v (x y : Int) (w : World) : Calls Try.prog 65 #[.int .i64 x, .int .i64 y] w fun e w' => e = .returned (.bool (decide (x < y))) ∧ w = w' := by
  go_enter Try.func65, Try.ntmps65
  go_wp2_with fail
  refine (nan2_v x w).mono ?_
  rintro e _ ⟨rfl, rfl⟩
  obtain ⟨b, hb⟩ : ∃ b, decide (x < y) = b := ⟨_, rfl⟩
  go_wp2_with fail
  go_ret
  exact ⟨by rw [hb]; rfl, rfl⟩
def AscI (l : List Int) : Prop := ∀ (i j : Nat) (x y : Int), i < j → l[i]? = some x → l[j]? = some y → x < y
theorem with_asc {own : Int} : ∀ {ds : List Int} {n : Int}, withOk own n ds = true → (∀ d ∈ ds, n < d ∧ dev d = true ∧ d ≠ own) ∧ AscI ds
  | [], _, _ => ⟨by simp, fun i j x y _ h => by simp at h⟩
  | d :: ds, n, h => by
    simp only [withOk, Bool.and_eq_true, Bool.not_eq_true', decide_eq_false_iff_not, decide_eq_true_eq] at h
    obtain ⟨⟨⟨h1, h2⟩, h3⟩, h4⟩ := h
    obtain ⟨g1, g2⟩ := with_asc h4
    refine ⟨fun x hx => ?_, fun i j x y hij hx hy => ?_⟩
    · rcases List.mem_cons.1 hx with rfl | hx
      · exact ⟨h3, h1, h2⟩
      · exact ⟨by have := (g1 x hx).1; omega, (g1 x hx).2⟩
    · cases j with
      | zero => omega
      | succ j =>
        cases i with
        | zero =>
          obtain rfl : d = x := by simpa using hx
          exact (g1 y (List.mem_of_getElem? (by simpa using hy))).1
        | succ i => exact g2 i j x y (by omega) (by simpa using hx) (by simpa using hy)
set_option maxRecDepth 100000 in
set_option maxHeartbeats 8000000 in
theorem bsI_v (A : Option Addr) (n c B : Nat) (l : List Int) (d : Int) (w : World) (hr : IReads w B A n l) (hn : n ≤ 1000000) (hs : AscI l) :
    Calls Try.prog 46 #[.slice A n c, .int .i64 d] w fun e w' =>
      ∃ (i : Nat) (b : Bool), e = .returned (.tuple #[.int .i64 (i : Int), .bool b]) ∧ i ≤ n ∧ (∀ (j : Nat) (x : Int), l[j]? = some x → (j < i ↔ x < d)) ∧ (b = true ↔ l[i]? = some d) ∧ Below w.heap.size w w' := by
  have HR := Lib.hid hr
  have HLN := Lib.hid hr.len
  have HS := Lib.hid hs
  clear hr hs
  go_enter Try.func46, Try.ntmps46
  go_wp2_with fail
  go_loopw [7, 8] (fun iv jv wr => ∃ (i j : Nat), i ≤ j ∧ j ≤ n ∧ iv = .int .i64 (i : Int) ∧ jv = .int .i64 (j : Int) ∧ (∀ (k : Nat) (x : Int), l[k]? = some x → k < i → x < d) ∧ (∀ (k : Nat) (x : Int), l[k]? = some x → j ≤ k → d ≤ x) ∧ w = wr) (fun iv jv _ => (intOf jv).toNat - (intOf iv).toNat)
  case atStart =>
    have q1 : ∀ (k : Nat) (x : Int), l[k]? = some x → k < 0 → x < d := fun k r _ h => absurd h (Nat.not_lt_zero _)
    have q2 : ∀ (k : Nat) (x : Int), l[k]? = some x → n ≤ k → d ≤ x := fun k r h1 h2 => by
      rw [List.getElem?_eq_none (by rw [HLN.out]; exact h2)] at h1
      cases h1
    exact ⟨0, n, Nat.zero_le _, Nat.le_refl _, rfl, rfl, q1, q2, rfl⟩
  case round =>
    obtain ⟨i, j, hij, hjn, rfl, rfl, hlo, hhi, rfl⟩ := hrel
    have HLO := Lib.hid hlo
    have HHI := Lib.hid hhi
    clear hlo hhi
    by_cases hlt : i < j
    · obtain ⟨h, hh⟩ : ∃ h, (i + j) / 2 = h := ⟨_, rfl⟩
      have h1 : i ≤ h := by omega
      have h2 : h < j := by omega
      have h3 : h < n := by omega
      have hh2 : ((i : Int) + (j : Int)) / 2 = (h : Int) := by omega
      go_upto_region 5 with fail
      clear hh hh2
      obtain ⟨ad, x, rfl, hx, hc⟩ := HR.out.at_ h3
      have q0 := hc w (Below.refl _ _)
      have HX := Lib.hid hx
      have h0 : (0 : Int) ≤ (h : Int) := by omega
      clear hx hc
      go_wp2_with fail
      refine (less_v x d w).mono ?_
      rintro e _ ⟨rfl, rfl⟩
      by_cases hl : x < d
      · rw [decide_eq_true hl]
        have HL := Lib.hid (show ∀ (k : Nat) (y : Int), l[k]? = some y → k < h + 1 → y < d from fun k r y1 y2 => by
          rcases Nat.lt_or_ge k h with h4 | h4
          · exact Int.lt_trans (HS.out k h r _ h4 y1 HX.out) hl
          · obtain rfl : k = h := by omega
            rw [HX.out] at y1
            obtain rfl := Option.some.inj y1
            exact hl)
        clear hl
        go_wp2_with fail
        go_roundw
        case rel => exact ⟨h + 1, j, h2, hjn, by go_num, rfl, HL.out, HHI.out, by trivial⟩
        case measure => simp [intOf]; omega
      · rw [decide_eq_false hl]
        have HL := Lib.hid (show ∀ (k : Nat) (y : Int), l[k]? = some y → h ≤ k → d ≤ y from fun k r y1 y2 => by
          rcases Nat.lt_or_ge h k with h4 | h4
          · have := HS.out h k _ r h4 HX.out y1
            omega
          · obtain rfl : k = h := by omega
            rw [HX.out] at y1
            obtain rfl := Option.some.inj y1
            omega)
        clear hl
        go_wp2_with fail
        go_roundw
        case rel => exact ⟨i, h, h1, by omega, rfl, rfl, HLO.out, HL.out, by trivial⟩
        case measure => simp [intOf]; omega
    · obtain rfl : i = j := by omega
      have HIF := Lib.hid (show ∀ (k : Nat) (x : Int), l[k]? = some x → (k < i ↔ x < d) from fun k r h1 => ⟨HLO.out k r h1, fun h2 => by
        rcases Nat.lt_or_ge k i with h3 | h3
        · exact h3
        · have := HHI.out k r h1 h3; omega⟩)
      by_cases hin : i < n
      · obtain ⟨ad, x, rfl, hx, hc⟩ := HR.out.at_ hin
        have q0 := hc w (Below.refl _ _)
        have HX := Lib.hid hx
        have h0 : (0 : Int) ≤ (i : Int) := by omega
        clear hx hc
        by_cases he : x = d
        · have d1 : (x == d) = true := beq_iff_eq.2 he
          have HE := Lib.hid (show l[i]? = some d by rw [HX.out, he])
          clear he
          go_wp2_with fail
          go_ret2
          exact ⟨i, true, rfl, hjn, HIF.out, ⟨fun _ => HE.out, fun _ => rfl⟩, Below.refl _ _⟩
        · have d1 : (x == d) = false := beq_eq_false_iff_ne.2 he
          have HE := Lib.hid (show ¬ l[i]? = some d from fun h => he (by rw [HX.out] at h; exact Option.some.inj h))
          clear he
          go_wp2_with fail
          refine (nan1_v x w).mono ?_
          rintro e _ ⟨rfl, rfl⟩
          go_wp2_with fail
          go_ret2
          exact ⟨i, false, rfl, hjn, HIF.out, ⟨fun h => (by cases h), fun h => absurd h HE.out⟩, Below.refl _ _⟩
      · have d1 : decide (i < n) = false := decide_eq_false hin
        have HE := Lib.hid (show ¬ l[i]? = some d from fun h => by
          rw [List.getElem?_eq_none (by rw [HLN.out]; omega)] at h
          cases h)
        go_wp2_with fail
        go_ret2
        exact ⟨i, false, rfl, hjn, HIF.out, ⟨fun h => (by cases h), fun h => absurd h HE.out⟩, Below.refl _ _⟩
theorem eql_nil {P : Program} (w : World) (t e : TypeId) (a : Option Addr) (l c : Nat) (h : P.underlying t = some (.slice e)) : (binOp .eql t (.slice a l c) (.slice none 0 0)).run P w = .ok (.bool a.isNone) w := by
  simp only [binOp]
  simp [run_equal_slice_nil w t e a l c h]
theorem own_empty (w : World) (e : TypeId) (K : Nat) : (w.alloc (.cells #[] e)).ownsRow w.heap.size e K (.slice (some ⟨w.heap.size, 0, none⟩) 0 0) 0 [] :=
  ⟨by simp, .inr ⟨w.heap.size, 0, #[], rfl, Nat.le_refl _, heap_alloc_new w _, Nat.le_refl _, by decide, by simp, by simp⟩⟩
set_option maxRecDepth 100000 in
set_option maxHeartbeats 4000000 in
theorem cloneR_v (B : Nat) (A : Option Addr) (n c : Nat) (xs : List Value) (w : World) (hr : Reads w B 2 A n xs) (h1 : ∀ u ∈ xs, u.oneCell' = true) (hB : B ≤ w.heap.size) (hn : n ≤ 1000000) :
    Calls Try.prog 59 #[.slice A n c] w fun e w' => ∃ A' c', e = .returned (.slice A' n c') ∧ w'.ownsRow w.heap.size 56 2 (.slice A' n c') n xs ∧ Below w.heap.size w w' := by
  have HR := Lib.hid hr
  have H1 := Lib.hid h1
  have HXL := Lib.hid hr.1
  clear hr h1
  go_enter Try.func59, Try.ntmps59
  rcases A with _ | ad
  · obtain rfl : n = 0 := by
      rcases Nat.eq_zero_or_pos n with h0 | h0
      · exact h0
      · obtain ⟨ad, e, _⟩ := HR.out.2 h0
        cases e
    have HX0 := Lib.hid (show xs = [] from List.eq_nil_of_length_eq_zero (by have := HXL.out; simpa using this))
    have hnil : (binOp .eql 25 (.slice none 0 c) (.slice none 0 0)).run Try.prog w = .ok (.bool true) w := eql_nil w 25 56 none 0 c Try.underlying25
    go_wp2_with fail
    go_ret
    exact ⟨none, 0, rfl, by rw [HX0.out]; exact World.ownsRow_nil _ _ _ 2, Below.refl _ _⟩
  · have hnil : (binOp .eql 25 (.slice (some ad) n c) (.slice none 0 0)).run Try.prog w = .ok (.bool false) w := eql_nil w 25 56 (some ad) n c Try.underlying25
    have OE := Lib.hid (own_empty w 56 2)
    have BE := Lib.hid ((Below.refl w.heap.size w).alloc (Nat.le_refl _) (.cells #[] 56))
    obtain ⟨i0, hi0, hz0, hz1, hz2⟩ := info_parts info_R
    have HRE := Lib.hid (Reads.alloc HR.out hB (.cells #[] 56))
    go_wp2_with (first
      | (refine wpList_append_any (w.alloc (.cells #[] 56)) rfl (.tmp 5) (.tmp 6) 25 rfl w.heap.size 56 i0 _ 2 40 Try.underlying25 hi0 hz0 hz1 hz2 rfl (by decide) (.slice (some ⟨w.heap.size, 0, none⟩) 0 0) 0 [] rfl OE.out B (some ad) n c xs rfl HRE.out H1.out (by simp only [maxLen]; omega) (by omega) (by simp) ?_
         intro v' w1 ho1 hg1 _
         rw [Nat.zero_add] at ho1
         obtain ⟨A1, c1, rfl, _⟩ := own_shape ho1)
      | fail)
    have HO1 := Lib.hid ho1
    have HB1 := Lib.hid (BE.out.grown hg1 (by simp) (fun j hj => (OE.out.lt j hj).1))
    clear ho1 hg1
    go_ret
    exact ⟨A1, c1, rfl, HO1.out, HB1.out⟩
set_option maxRecDepth 100000 in
set_option maxHeartbeats 4000000 in
theorem cloneI_v (B : Nat) (A : Option Addr) (n c : Nat) (xs : List Value) (w : World) (hr : Reads w B 1 A n xs) (h1 : ∀ u ∈ xs, u.oneCell' = true) (hB : B ≤ w.heap.size) (hn : n ≤ 1000000) :
    Calls Try.prog 60 #[.slice A n c] w fun e w' => ∃ A' c', e = .returned (.slice A' n c') ∧ w'.ownsRow w.heap.size 3 1 (.slice A' n c') n xs ∧ Below w.heap.size w w' := by
  have HR := Lib.hid hr
  have H1 := Lib.hid h1
  have HXL := Lib.hid hr.1
  clear hr h1
  go_enter Try.func60, Try.ntmps60
  rcases A with _ | ad
  · obtain rfl : n = 0 := by
      rcases Nat.eq_zero_or_pos n with h0 | h0
      · exact h0
      · obtain ⟨ad, e, _⟩ := HR.out.2 h0
        cases e
    have HX0 := Lib.hid (show xs = [] from List.eq_nil_of_length_eq_zero (by have := HXL.out; simpa using this))
    have hnil : (binOp .eql 35 (.slice none 0 c) (.slice none 0 0)).run Try.prog w = .ok (.bool true) w := eql_nil w 35 3 none 0 c Try.underlying35
    go_wp2_with fail
    go_ret
    exact ⟨none, 0, rfl, by rw [HX0.out]; exact World.ownsRow_nil _ _ _ 1, Below.refl _ _⟩
  · have hnil : (binOp .eql 35 (.slice (some ad) n c) (.slice none 0 0)).run Try.prog w = .ok (.bool false) w := eql_nil w 35 3 (some ad) n c Try.underlying35
    have OE := Lib.hid (own_empty w 3 1)
    have BE := Lib.hid ((Below.refl w.heap.size w).alloc (Nat.le_refl _) (.cells #[] 3))
    obtain ⟨i0, hi0, hz0, hz1, hz2⟩ := info_parts info_I
    have HRE := Lib.hid (Reads.alloc HR.out hB (.cells #[] 3))
    go_wp2_with (first
      | (refine wpList_append_any (w.alloc (.cells #[] 3)) rfl (.tmp 5) (.tmp 6) 35 rfl w.heap.size 3 i0 _ 1 8 Try.underlying35 hi0 hz0 hz1 hz2 rfl (by decide) (.slice (some ⟨w.heap.size, 0, none⟩) 0 0) 0 [] rfl OE.out B (some ad) n c xs rfl HRE.out H1.out (by simp only [maxLen]; omega) (by omega) (by simp) ?_
         intro v' w1 ho1 hg1 _
         rw [Nat.zero_add] at ho1
         obtain ⟨A1, c1, rfl, _⟩ := own_shape ho1)
      | fail)
    have HO1 := Lib.hid ho1
    have HB1 := Lib.hid (BE.out.grown hg1 (by simp) (fun j hj => (OE.out.lt j hj).1))
    clear ho1 hg1
    go_ret
    exact ⟨A1, c1, rfl, HO1.out, HB1.out⟩
theorem Rw.p_eta (r : Rw) : r.p = (r.f, r.ds) := rfl
def apartR (x y : Rw) : Prop := ∀ b, (Value.slice x.a x.n x.c).ownBlock = some b → (Value.slice y.a y.n y.c).ownBlock ≠ some b
/-- A matrix of the call's own: its rows, and their slices. -/
structure OwnM (V : World) (base : Nat) (A : Option Addr) (n c : Nat) (rs : List Rw) : Prop where
  row : V.ownsRow base 56 2 (.slice A n c) n (rs.flatMap Rw.cells)
  each : ∀ r ∈ rs, IOwn V base r.a r.n r.c r.ds ∧ r.f.size ≤ 9223372036854775807
  apart : rs.Pairwise apartR
section
variable {V V' : World} {base n c : Nat} {A : Option Addr} {rs : List Rw}
theorem OwnM.len (h : OwnM V base A n c rs) : rs.length = n := by have h1 := h.row.1; rw [flat_len Rw.cells_len] at h1; omega
theorem OwnM.reads (h : OwnM V base A n c rs) : RowsR V V.heap.size A n rs := ⟨Reads.of_own h.row, fun r hr => ⟨(h.each r hr).1.reads, (h.each r hr).1.2, (h.each r hr).1.cm, (h.each r hr).2⟩⟩
theorem OwnM.below (h : OwnM V base A n c rs) (hb : Below V.heap.size V V') : OwnM V' base A n c rs := ⟨own_keep h.row (fun j hj => hb.block j (h.row.lt j hj).2), fun r hr => ⟨(h.each r hr).1.below hb, (h.each r hr).2⟩, h.apart⟩
theorem OwnM.nc (h : OwnM V base A n c rs) : n ≤ c := by
  rcases h.row.2 with ⟨hh, h0⟩ | ⟨g, cap', cur, hh, _, _, h2, _⟩
  · simp only [Value.slice.injEq] at hh; omega
  · simp only [Value.slice.injEq] at hh; omega
end
theorem row_int_ne {V : World} {base base' n c m d : Nat} {A A' : Option Addr} {xs : List Value} {l : List Int} (h : V.ownsRow base 56 2 (.slice A n c) n xs) (h' : IOwn V base' A' m d l) {j : Nat} (hj : (Value.slice A' m d).ownBlock = some j) : (Value.slice A n c).ownBlock ≠ some j := fun e => by
  obtain ⟨c1, f1, e1⟩ := own_cells h'.1 hj
  obtain ⟨c2, f2, e2⟩ := own_cells h e
  have e3 := Option.some.inj (e1.symm.trans e2)
  injection e3 with _ e4 _
  exact absurd e4 (by decide)
theorem set_slice {ys zs : List Rw} {x : Rw} {v : Value} {a' : Option Addr} {n' c' : Nat} (hv : v = .slice a' n' c') : ((ys ++ x :: zs).flatMap Rw.cells).set (ys.length * 2 + 1) v = (ys ++ ⟨x.f, a', n', c', x.ds⟩ :: zs).flatMap Rw.cells := by
  subst hv
  rw [List.flatMap_append, List.flatMap_append, List.set_append_right _ _ (by rw [flat_len Rw.cells_len]; omega), flat_len Rw.cells_len]
  congr 1
  rw [show ys.length * 2 + 1 - ys.length * 2 = 1 by omega]
  rfl
set_option maxRecDepth 100000 in
set_option maxHeartbeats 16000000 in
theorem copy_v (own : Int) (A : Option Addr) (n c B : Nat) (rs : List Rw) (w : World) (hr : RowsR w B A n rs) (hB : B ≤ w.heap.size) (hn : n ≤ 1000000) (hrs : ∀ r ∈ rs, r.n ≤ 1000000) :
    Calls Try.prog 42 #[.agg #[.int .i64 own, .slice A n c]] w fun e w' => ∃ A' c' rs', e = .returned (.agg #[.int .i64 own, .slice A' n c']) ∧ OwnM w' w.heap.size A' n c' rs' ∧ rs'.map Rw.p = rs.map Rw.p ∧ Below w.heap.size w w' := by
  have HR := Lib.hid hr
  have HLN := Lib.hid hr.len
  have HRS := Lib.hid hrs
  have HIM := Lib.hid (show (Try.prog.info? 27).map (·.size) = some 2 by kernel_rfl)
  have B0 := Lib.hid (((Below.refl w.heap.size w).alloc (Nat.le_refl _) (.cells #[.int .i64 own, .slice A n c] 27)).alloc (by simp) (.cells #[.int .i64 0, .slice none 0 0] 27))
  have X0 := Lib.hid (show ((w.alloc (.cells #[.int .i64 own, .slice A n c] 27)).alloc (.cells #[.int .i64 0, .slice none 0 0] 27)).heap[w.heap.size]? = some (.cells #[.int .i64 own, .slice A n c] 27 (0, 0)) from (Below.heap_alloc _ _ _ (by simp)).trans (heap_alloc_new w _))
  have Y0 := Lib.hid (show ((w.alloc (.cells #[.int .i64 own, .slice A n c] 27)).alloc (.cells #[.int .i64 0, .slice none 0 0] 27)).heap[w.heap.size + 1]? = some (.cells #[.int .i64 0, .slice none 0 0] 27 (0, 0)) from by
    have h := heap_alloc_new (w.alloc (.cells #[.int .i64 own, .slice A n c] 27)) (.cells #[.int .i64 0, .slice none 0 0] 27)
    simpa using h)
  have hz0 : ((w.alloc (.cells #[.int .i64 own, .slice A n c] 27)).alloc (.cells #[.int .i64 0, .slice none 0 0] 27)).heap.size = w.heap.size + 2 := by simp
  clear hr hrs
  go_enter Try.func42, Try.ntmps42
  go_upto_region 1 with fail
  generalize (w.alloc (.cells #[.int .i64 own, .slice A n c] 27)).alloc (.cells #[.int .i64 0, .slice none 0 0] 27) = w0 at *
  generalize hg : w.heap.size = g at *
  have c00 : w0.cell? ⟨g, 0, none⟩ = some (.int .i64 own) := by rw [cell_of_row _ _ 0 _ _ _ X0.out]; rfl
  have c01 : w0.cell? ⟨g, 1, none⟩ = some (.slice A n c) := by rw [cell_of_row _ _ 1 _ _ _ X0.out]; rfl
  go_wp2_with fail
  refine (cloneR_v B A n c (rs.flatMap Rw.cells) w0 (HR.out.row.below (B0.out.mono hB)) (row1 rs) (by omega) hn).mono ?_
  rintro e w1 ⟨A1, c1, rfl, o1, b1⟩
  have O1 := Lib.hid o1
  have hz1 := b1.size
  have X1 := Lib.hid ((b1.block g (by omega)).trans X0.out)
  have Y1 := Lib.hid ((b1.block (g + 1) (by omega)).trans Y0.out)
  have B1 := Lib.hid (B0.out.trans (b1.mono (by omega)))
  clear o1 b1 c00 c01 X0 Y0
  have X2 := Lib.hid (heap_setCell_same w1 g 1 _ _ (.slice A1 n c1) X1.out)
  have f10 : w1.frozen? ⟨g, 1, none⟩ = false := by unfold World.frozen?; rw [X1.out]; simp
  have c11 : w1.cell? ⟨g, 1, none⟩ = some (.slice A n c) := by rw [cell_of_row _ _ 1 _ _ _ X1.out]; rfl
  have Y2 := Lib.hid ((Below.heap_setCell w1 ⟨g, 1, none⟩ (.slice A1 n c1) (g + 1) (by simp)).trans Y1.out)
  have O2 := Lib.hid (own_keep O1.out (w' := w1.setCell ⟨g, 1, none⟩ (.slice A1 n c1)) (fun j hj => Below.heap_setCell w1 ⟨g, 1, none⟩ _ j (by have := (O1.out.lt j hj).1; show j ≠ g; omega)))
  have B2 := Lib.hid (B1.out.setCell (p := ⟨g, 1, none⟩) (Nat.le_refl _) (.slice A1 n c1))
  have hz2 : (w1.setCell ⟨g, 1, none⟩ (.slice A1 n c1)).heap.size = w1.heap.size := by simp [World.setCell]
  go_upto_region 2 with fail
  generalize w1.setCell ⟨g, 1, none⟩ (.slice A1 n c1) = w2 at *
  have c21 : w2.cell? ⟨g, 1, none⟩ = some (.slice A1 n c1) := by rw [cell_of_row _ _ 1 _ _ _ X2.out]; rfl
  clear f10 c11 X1 Y1 O1 B1
  go_wp2_with fail
  go_loopw [11] (fun i wr => ∃ (k : Nat) (ys : List Rw), k ≤ n ∧ i = .int .i64 (k : Int) ∧ ys.length = k ∧ ys.map Rw.p = (rs.take k).map Rw.p ∧ wr.ownsRow w0.heap.size 56 2 (.slice A1 n c1) n ((ys ++ rs.drop k).flatMap Rw.cells) ∧ (∀ y ∈ ys, IOwn wr w0.heap.size y.a y.n y.c y.ds ∧ y.f.size ≤ 9223372036854775807) ∧
    wr.heap[g]? = some (.cells #[.int .i64 own, .slice A1 n c1] 27 (0, 0)) ∧ wr.heap[g + 1]? = some (.cells #[.int .i64 0, .slice none 0 0] 27 (0, 0)) ∧ Below g w wr ∧ ys.Pairwise apartR) (fun i _ => n - (intOf i).toNat)
  case atStart => exact ⟨0, [], Nat.zero_le _, rfl, rfl, by simp, O2.out, by simp, X2.out, Y2.out, B2.out, List.Pairwise.nil⟩
  case round =>
    obtain ⟨k, ys, hk, rfl, hyl, hyp, ho, hye, hx, hy, hb, hap⟩ := hrel
    have HAP := Lib.hid hap
    clear hap
    have HYP := Lib.hid hyp
    have HO := Lib.hid ho
    have HYE := Lib.hid hye
    have HX := Lib.hid hx
    have HY := Lib.hid hy
    have HB := Lib.hid hb
    have HYL := Lib.hid hyl
    have hgl : g + 1 < wr.heap.size := (Array.getElem?_eq_some_iff.1 hy).1
    clear hyp ho hye hx hy hb hyl
    have c31 : wr.cell? ⟨g, 1, none⟩ = some (.slice A1 n c1) := by rw [cell_of_row _ _ 1 _ _ _ HX.out]; rfl
    have c30 : wr.cell? ⟨g, 0, none⟩ = some (.int .i64 own) := by rw [cell_of_row _ _ 0 _ _ _ HX.out]; rfl
    by_cases hlt : k < n
    · obtain ⟨g1, rfl⟩ := own_some HO.out (by omega)
      have hg1 := (HO.out.lt g1 rfl)
      obtain ⟨ad, rf, ra, rn, rc, ds, hA, hx, ⟨hri, hrn, hrc, hfs⟩, _, _⟩ := HR.out.at_ hlt
      have hdr := drop_at hx
      have HXX := Lib.hid hx
      have HDR := Lib.hid hdr
      have hrn2 := HRS.out _ (List.mem_of_getElem? hx)
      simp only at hrn2
      have HRI := Lib.hid (show ∀ V, Below g w V → IReads V B ra rn ds from fun V hV => Reads.below hri (hV.mono hB))
      have hcl : wr.cell? ⟨g1, k * 2 + 1, none⟩ = some (.slice ra rn rc) := by
        rw [HO.out.cellAt (k * 2 + 1) (by omega), List.flatMap_append, List.getElem?_append_right (by rw [flat_len Rw.cells_len, HYL.out]; omega), flat_len Rw.cells_len, HYL.out, HDR.out, List.flatMap_cons]
        rw [show k * 2 + 1 - k * 2 = 1 by omega]
        rfl
      have hfr : wr.frozen? ⟨g1, k * 2 + 1, none⟩ = false := HO.out.frozenAt _
      have k0 : (0 : Int) ≤ (k : Int) := by omega
      have hne1 : g1 ≠ g := by omega
      have hne2 : g1 ≠ g + 1 := by omega
      clear hri hx hdr hA
      go_upto_region 5 with fail
      refine wp_region_F 12 [(0, 1), (1, 1), (2, 1), (3, 1), (4, 1), (5, 1), (6, 1), (7, 1), (8, 2), (9, 0), (10, 1), (11, 1), (12, 4)] (fun V => V.cell? ⟨g, 1, none⟩ = some (.slice (some ⟨g1, 0, none⟩) n c1)) (fun V => V.cell? ⟨g1, k * 2 + 1, none⟩ = some (.slice ra rn rc)) (by kernel_rfl) (by kernel_rfl) (by kernel_rfl) (by kernel_rfl) (by kernel_rfl) (fun _ => ?_)
      simp only [outE, List.getElem?_cons_zero, List.getElem?_cons_succ, Option.getD_some]
      have hF : wr.drew.cell? ⟨g, 1, none⟩ = some (.slice (some ⟨g1, 0, none⟩) n c1) := c31
      have hG : wr.drew.cell? ⟨g1, k * 2 + 1, none⟩ = some (.slice ra rn rc) := hcl
      have T0 := Lib.hid (show Below wr.heap.size wr wr.drew from (Below.refl _ _).drew)
      generalize wr.drew = v0 at *
      iterate 8 (refine TF.val1 (v := ?_) ?_ ?_ ?_ ?_ ?_ ?_; rotate_left; (focus rfl); (focus (intro W hSW; (try dsimp only at hSW); (try (obtain ⟨hS1, hSW⟩ := hSW)); (try (obtain ⟨hS2, hSW⟩ := hSW)); (try (obtain ⟨hS3, hSW⟩ := hSW)); (try (obtain ⟨hS4, hSW⟩ := hSW)); (try (obtain ⟨hS5, hSW⟩ := hSW)); (try (obtain ⟨hS6, hSW⟩ := hSW)); (try (obtain ⟨hS7, hSW⟩ := hSW)); (try (obtain ⟨hS8, hSW⟩ := hSW)); go_simp; (try with_reducible rfl); done)); (focus exact fun _ _ _ h => h); (focus exact hF); (focus exact hG); simp only [Act.put, List.setIfInBounds_toArray, List.set_cons_zero, List.set_cons_succ])
      iterate 1 (refine TF.val2 (v := ?_) ?_ ?_ ?_ ?_ ?_ ?_; rotate_left; (focus rfl); (focus (intro W hSW; (try dsimp only at hSW); (try (obtain ⟨hS1, hSW⟩ := hSW)); (try (obtain ⟨hS2, hSW⟩ := hSW)); (try (obtain ⟨hS3, hSW⟩ := hSW)); (try (obtain ⟨hS4, hSW⟩ := hSW)); (try (obtain ⟨hS5, hSW⟩ := hSW)); (try (obtain ⟨hS6, hSW⟩ := hSW)); (try (obtain ⟨hS7, hSW⟩ := hSW)); (try (obtain ⟨hS8, hSW⟩ := hSW)); go_simp; (try with_reducible rfl); done)); (focus exact fun _ _ _ h => h); (focus exact hF); (focus exact hG); simp only [Act.put, List.setIfInBounds_toArray, List.set_cons_zero, List.set_cons_succ])
      refine TF.eff0 (by rfl) (fun K hK => ?_); go_simp
      refine (cloneI_v B ra rn rc (ds.map (Value.int .i64)) v0 (HRI.out v0 (HB.out.trans (T0.out.mono (by omega)))) (int1 ds) (by have := T0.out.size; omega) (by omega)).mono ?_
      rintro e v1 ⟨A5, c5, rfl, o5, b5⟩
      have T1 := Lib.hid (T0.out.trans (b5.mono T0.out.size))
      have hz5 := T0.out.size
      have hF1 : v1.cell? ⟨g, 1, none⟩ = some (.slice (some ⟨g1, 0, none⟩) n c1) := (T1.out.cell (p := ⟨g, 1, none⟩) (show g < wr.heap.size by omega)).trans c31
      have hG1 : v1.cell? ⟨g1, k * 2 + 1, none⟩ = some (.slice ra rn rc) := (T1.out.cell (p := ⟨g1, k * 2 + 1, none⟩) (show g1 < wr.heap.size by omega)).trans hcl
      have O5 := Lib.hid (show IOwn v1 v0.heap.size A5 rn c5 ds from ⟨o5, by obtain ⟨_, _, e1, e2⟩ := own_shape o5; injection e1 with _ _ e3; omega⟩)
      clear b5 o5 hF hG
      have hF := hF1
      have hG := hG1
      refine hK.out _ _ hF hG ?_
      clear hK hF1 hG1
      (try simp only [Act.put, List.setIfInBounds_toArray, List.set_cons_zero, List.set_cons_succ])
      iterate 2 (refine TF.val1 (v := ?_) ?_ ?_ ?_ ?_ ?_ ?_; rotate_left; (focus rfl); (focus (intro W hSW; (try dsimp only at hSW); (try (obtain ⟨hS1, hSW⟩ := hSW)); (try (obtain ⟨hS2, hSW⟩ := hSW)); (try (obtain ⟨hS3, hSW⟩ := hSW)); (try (obtain ⟨hS4, hSW⟩ := hSW)); (try (obtain ⟨hS5, hSW⟩ := hSW)); (try (obtain ⟨hS6, hSW⟩ := hSW)); (try (obtain ⟨hS7, hSW⟩ := hSW)); (try (obtain ⟨hS8, hSW⟩ := hSW)); go_simp; (try with_reducible rfl); done)); (focus exact fun _ _ _ h => h); (focus exact hF); (focus exact hG); simp only [Act.put, List.setIfInBounds_toArray, List.set_cons_zero, List.set_cons_succ])
      have hf1 : v1.frozen? ⟨g1, k * 2 + 1, none⟩ = false := by
        rw [T1.out.frozen (p := ⟨g1, k * 2 + 1, none⟩) (show g1 < wr.heap.size by omega)]
        exact hfr
      have OW := Lib.hid (own_keep HO.out (w' := v1) (fun j hj => T1.out.block j (HO.out.lt j hj).2))
      have OS := Lib.hid ((OW.out.stored (k * 2 + 1) (.slice A5 rn c5)).1)
      have BS := Lib.hid ((HB.out.trans (T1.out.mono (by omega))).setCell (p := ⟨g1, k * 2 + 1, none⟩) (show g ≤ g1 by omega) (.slice A5 rn c5))
      have HXS := Lib.hid ((Below.heap_setCell v1 ⟨g1, k * 2 + 1, none⟩ (.slice A5 rn c5) g (fun e => hne1 e.symm)).trans ((T1.out.block g (by omega)).trans HX.out))
      have HYS := Lib.hid ((Below.heap_setCell v1 ⟨g1, k * 2 + 1, none⟩ (.slice A5 rn c5) (g + 1) (fun e => hne2 e.symm)).trans ((T1.out.block (g + 1) (by omega)).trans HY.out))
      have hkeep : ∀ {b m d : Nat} {A' : Option Addr} {l : List Int}, IOwn v1 b A' m d l → IOwn (v1.setCell ⟨g1, k * 2 + 1, none⟩ (.slice A5 rn c5)) b A' m d l := fun h => h.keep fun j hj => Below.heap_setCell v1 _ _ j (fun e => row_int_ne OW.out h hj (by rw [e]; rfl))
      have HYS2 := Lib.hid (show ∀ y ∈ ys ++ [(⟨rf, A5, rn, c5, ds⟩ : Rw)], IOwn (v1.setCell ⟨g1, k * 2 + 1, none⟩ (.slice A5 rn c5)) w0.heap.size y.a y.n y.c y.ds ∧ y.f.size ≤ 9223372036854775807 from fun y hy => by
        rcases List.mem_append.1 hy with hy | hy
        · exact ⟨hkeep ((HYE.out y hy).1.below T1.out), (HYE.out y hy).2⟩
        · obtain rfl := List.mem_singleton.1 hy
          exact ⟨hkeep (O5.out.down (by omega)), hfs⟩)
      have HOS := Lib.hid (show (v1.setCell ⟨g1, k * 2 + 1, none⟩ (.slice A5 rn c5)).ownsRow w0.heap.size 56 2 (.slice (some ⟨g1, 0, none⟩) n c1) n (((ys ++ [(⟨rf, A5, rn, c5, ds⟩ : Rw)]) ++ rs.drop (k + 1)).flatMap Rw.cells) by
        have h := OS.out
        rw [HDR.out, ← HYL.out, set_slice rfl, HYL.out] at h
        rw [List.append_assoc]
        exact h)
      have HPS := Lib.hid (show (ys ++ [(⟨rf, A5, rn, c5, ds⟩ : Rw)]).map Rw.p = (rs.take (k + 1)).map Rw.p by rw [List.map_append, HYP.out, List.take_add_one, HXX.out, List.map_append]; rfl)
      have HLS := Lib.hid (show (ys ++ [(⟨rf, A5, rn, c5, ds⟩ : Rw)]).length = k + 1 by rw [List.length_append, HYL.out]; rfl)
      have HAP2 := Lib.hid (show (ys ++ [(⟨rf, A5, rn, c5, ds⟩ : Rw)]).Pairwise apartR from List.pairwise_append.2 ⟨HAP.out, List.pairwise_singleton _ _, fun x hx y hy b h1 h2 => by
        obtain rfl := List.mem_singleton.1 hy
        have q1 := ((HYE.out x hx).1.lt b h1).2
        have q2 := (O5.out.lt b h2).1
        omega⟩)
      clear hkeep
      refine TF.eff4 (by rfl) (fun K hK => ?_); go_simp
      refine hK.out _ _ (by rw [World.cell?_setCell_other _ _ _ _ (fun e => by injection e with e; exact hne1 e)]; exact hF) ?_
      refine TF.done ?_
      clear hK hF hG
      go_wp2_with fail
      go_roundw
      case rel => exact ⟨k + 1, _, hlt, by go_num, HLS.out, HPS.out, HOS.out, HYS2.out, HXS.out, HYS.out, BS.out, HAP2.out⟩
      case measure => simp [intOf]; omega
    · obtain rfl : k = n := by omega
      have HP := Lib.hid (show ys.map Rw.p = rs.map Rw.p by rw [HYP.out, List.take_of_length_le (by rw [HLN.out]; exact Nat.le_refl _)])
      have HOM := Lib.hid (show OwnM (wr.setRow (g + 1) #[.int .i64 own, .slice A1 k c1]) g A1 k c1 ys from ⟨own_down (base := w0.heap.size) (own_keep (by have h := HO.out; rwa [List.drop_of_length_le (by rw [HLN.out]; exact Nat.le_refl _), List.append_nil] at h) (fun j hj => setRow_other _ _ _ _ (by have := (HO.out.lt j hj).1; omega))) (by omega),
        fun y hy => ⟨((HYE.out y hy).1.keep (fun j hj => setRow_other _ _ _ _ (by have := ((HYE.out y hy).1.lt j hj).1; omega))).down (by omega), (HYE.out y hy).2⟩, HAP.out⟩)
      have XS := Lib.hid (setRow_heap wr (g + 1) _ #[.int .i64 own, .slice A1 k c1] _ _ HY.out)
      have BS := Lib.hid (below_setRow HB.out (Nat.le_succ _) #[.int .i64 own, .slice A1 k c1])
      go_wp2_with (first
        | (refine wpList_store_row rfl 27 (.tmp 2) (.tmp 27) rfl (g + 1) #[.int .i64 own, .slice A1 k c1] rfl rfl 27 _ HY.out HIM.out rfl (by simp [Value.oneCell']) ?_)
        | fail)
      exact bodyPost_ret (results_cell_row Try.results42 _ _ (g + 1) _ #[.int .i64 own, .slice A1 k c1] _ _ rfl XS.out Try.underlying27 rfl HIM.out) rfl ⟨A1, c1, ys, rfl, hg ▸ HOM.out, HP.out, hg ▸ BS.out⟩
end Go.Proofs.Ytikegnnlmfidfaa
