/-
  Matrices: a folder's row; Has, Shares.
-/
import Derived.Test.YtikegnnlmfidfaaMatD
import Derived.Laws.CopyOwn
namespace Go.Proofs.Ytikegnnlmfidfaa
open Go.RowKit
theorem results_row_tmp {P : Program} {fn : Func} {p q : Tmp} {ty : TypeId} (h : fn.results = #[.cell p ty, .tmp q]) (tmps : Array Value) (w : World) (g : Nat) (t : TypeId) (cs : Array Value) (fr : Nat × Nat) (d : TypeDesc)
    (hp : tmps.getD p undef = .pointer (some ⟨g, 0, none⟩)) (hg : w.heap[g]? = some (.cells cs t fr))
    (hu : P.underlying ty = some d) (hd : (match d with | .struct _ | .array _ _ => true | _ => false) = true) (hi : (P.info? ty).map (·.size) = some cs.size) :
    (results fn tmps).run P w = .ok (.tuple #[.agg cs, tmps.getD q undef]) w := by
  have hp' : tmps[p]?.getD undef = .pointer (some ⟨g, 0, none⟩) := by simpa using hp
  simp [results, h, hp', asAddr, run_loadVar_row w g t ty cs fr d hg hu hd hi]
theorem rows_all {own : Int} : ∀ {rs : List PRow} {last : ByteArray}, rowsOk own last rs = true → (∀ r ∈ rs, klt last r.1 = true ∧ folderP r.1 = true ∧ withOk own 0 r.2 = true) ∧ (∀ (i j : Nat) (x y : PRow), i < j → rs[i]? = some x → rs[j]? = some y → klt x.1 y.1 = true)
  | [], _, _ => ⟨by simp, fun i j x y _ h => by simp at h⟩
  | r :: rs, last, h => by
    simp only [rowsOk, Bool.and_eq_true] at h
    obtain ⟨⟨⟨h1, h2⟩, h3⟩, h4⟩ := h
    obtain ⟨g1, g2⟩ := rows_all h4
    refine ⟨fun x hx => ?_, fun i j x y hij hx hy => ?_⟩
    · rcases List.mem_cons.1 hx with rfl | hx
      · exact ⟨h2, h1, h3⟩
      · exact ⟨klt_trans h2 (g1 x hx).1, (g1 x hx).2⟩
    · cases j with
      | zero => omega
      | succ j =>
        cases i with
        | zero =>
          obtain rfl : r = x := by simpa using hx
          exact (g1 y (List.mem_of_getElem? (by simpa using hy))).1
        | succ i => exact g2 i j x y (by omega) (by simpa using hx) (by simpa using hy)
theorem chk_ok {m : PM} (h : chkM m = 0) : m.2.length ≤ 8 ∧ dev m.1 = true ∧ rowsOk m.1 emp m.2 = true := by
  unfold chkM at h
  split at h
  · cases h
  · split at h
    · cases h
    · split at h
      · rename_i h1 h2 h3
        exact ⟨by omega, by simpa using h2, h3⟩
      · cases h
theorem asc_of {own : Int} {rs : List Rw} (h : chkM (own, rs.map Rw.p) = 0) : Asc rs := fun i j x y hij hx hy =>
  (rows_all (chk_ok h).2.2).2 i j x.p y.p hij (by rw [List.getElem?_map, hx]; rfl) (by rw [List.getElem?_map, hy]; rfl)
theorem find_at {rs : List PRow} {f : ByteArray} {i : Nat} {r : PRow} (ha : ∀ (i j : Nat) (x y : PRow), i < j → rs[i]? = some x → rs[j]? = some y → klt x.1 y.1 = true) (hx : rs[i]? = some r) (hf : r.1 = f) : rs.find? (fun r => decide (r.1 = f)) = some r := by
  rw [List.find?_eq_some_iff_getElem]
  obtain ⟨hi, he⟩ := List.getElem?_eq_some_iff.1 hx
  refine ⟨by simpa using hf, i, hi, he, fun j hj => ?_⟩
  have h1 := ha j i _ _ hj (List.getElem?_eq_getElem (by omega)) hx
  simp only [decide_eq_false_iff_not, Bool.not_eq_true, Bool.not_eq_eq_eq_not, Bool.not_true]
  intro e
  exact klt_ne h1 (e.trans hf.symm)
theorem find_none {rs : List PRow} {f : ByteArray} (h : ∀ r ∈ rs, r.1 ≠ f) : rs.find? (fun r => decide (r.1 = f)) = none := by
  rw [List.find?_eq_none]
  intro r hr
  simpa using h r hr
theorem no_row {rs : List Rw} {i : Nat} {f : ByteArray} (ha : Asc rs) (h2 : ∀ (j : Nat) (r : Rw), rs[j]? = some r → (j < i ↔ klt r.f f = true)) (h3 : ¬ ∃ r, rs[i]? = some r ∧ r.f = f) : ∀ r ∈ rs.map Rw.p, r.1 ≠ f := by
  intro p hp e
  obtain ⟨r, hr, rfl⟩ := List.mem_map.1 hp
  obtain ⟨j, hj, rfl⟩ := List.getElem_of_mem hr
  have hx := List.getElem?_eq_getElem hj
  have e' : rs[j].f = f := e
  have h4 : ¬ j < i := fun h => by
    have := (h2 j _ hx).1 h
    rw [e', klt_irrefl] at this
    cases this
  rcases Nat.lt_or_ge i j with h5 | h5
  · have hi : i < rs.length := by omega
    have hy := List.getElem?_eq_getElem hi
    have h6 := ha i j _ _ h5 hy hx
    rw [e'] at h6
    exact absurd ((h2 i _ hy).2 h6) (Nat.lt_irrefl _)
  · obtain rfl : j = i := by omega
    exact h3 ⟨_, hx, e'⟩
set_option maxRecDepth 100000 in
set_option maxHeartbeats 4000000 in
theorem find_v (own : Int) (A : Option Addr) (n c B : Nat) (rs : List Rw) (f : ByteArray) (w : World) (hr : RowsR w B A n rs) (hB : B ≤ w.heap.size) (hk : chkM (own, rs.map Rw.p) = 0) :
    Calls Try.prog 43 #[.agg #[.int .i64 own, .slice A n c], .string f] w fun e w' =>
      ∃ (i : Nat) (b : Bool), e = .returned (.tuple #[.int .i64 (i : Int), .bool b]) ∧ i ≤ n ∧ (∀ j r, rs[j]? = some r → (j < i ↔ klt r.f f = true)) ∧ (b = true ↔ ∃ r, rs[i]? = some r ∧ r.f = f) ∧ Below w.heap.size w w' := by
  have HR := Lib.hid hr
  have HK := Lib.hid hk
  have hn : n ≤ 8 := by have := (chk_ok hk).1; rw [List.length_map, hr.len] at this; exact this
  have B0 := Lib.hid ((Below.refl w.heap.size w).alloc (Nat.le_refl _) (.cells #[.int .i64 own, .slice A n c] 27))
  clear hr hk
  go_enter Try.func43, Try.ntmps43
  go_wp2_with fail
  refine (bsearch_v A n c B rs f _ (HR.out.below (B0.out.mono hB)) (by simp; omega) (by omega) (asc_of HK.out)).mono ?_
  rintro e w1 ⟨i, b, rfl, h1, h2, h3, hb⟩
  have H2 := Lib.hid h2
  have H3 := Lib.hid h3
  have HB := Lib.hid (B0.out.trans (hb.mono (by simp)))
  clear h2 h3 hb
  go_wp2_with fail
  go_ret2
  exact ⟨i, b, rfl, h1, H2.out, H3.out, HB.out⟩
set_option maxRecDepth 100000 in
set_option maxHeartbeats 4000000 in
theorem row_v (own : Int) (A : Option Addr) (n c B : Nat) (rs : List Rw) (f : ByteArray) (w : World) (hr : RowsR w B A n rs) (hB : B ≤ w.heap.size) (hn : n ≤ 9223372036854775807) :
    Calls Try.prog 40 #[.agg #[.int .i64 own, .slice A n c], .string f] w fun e w' =>
      ∃ rf ra rn rc ds b, e = .returned (.tuple #[.agg #[.string rf, .slice ra rn rc], .bool b]) ∧ (b = true → rowP (own, rs.map Rw.p) f = some (rf, ds) ∧ (⟨rf, ra, rn, rc, ds⟩ : Rw) ∈ rs) ∧ (b = false → rowP (own, rs.map Rw.p) f = none) ∧ Below w.heap.size w w' := by
  have HI := Lib.hid (show (Try.prog.info? 56).map (·.size) = some 2 by kernel_rfl)
  have HR := Lib.hid hr
  have B0 := Lib.hid (((Below.refl w.heap.size w).alloc (Nat.le_refl _) (.cells #[.int .i64 own, .slice A n c] 27)).alloc (by simp) (.cells #[.string ⟨#[]⟩, .slice none 0 0] 56))
  have X0 := Lib.hid (show ((w.alloc (.cells #[.int .i64 own, .slice A n c] 27)).alloc (.cells #[.string ⟨#[]⟩, .slice none 0 0] 56)).heap[w.heap.size]? = some (.cells #[.int .i64 own, .slice A n c] 27 (0, 0)) from (Below.heap_alloc _ _ _ (by simp)).trans (heap_alloc_new w _))
  have Y0 := Lib.hid (show ((w.alloc (.cells #[.int .i64 own, .slice A n c] 27)).alloc (.cells #[.string ⟨#[]⟩, .slice none 0 0] 56)).heap[w.heap.size + 1]? = some (.cells #[.string ⟨#[]⟩, .slice none 0 0] 56 (0, 0)) from by
    have h := heap_alloc_new (w.alloc (.cells #[.int .i64 own, .slice A n c] 27)) (.cells #[.string ⟨#[]⟩, .slice none 0 0] 56)
    simpa using h)
  have hz0 : ((w.alloc (.cells #[.int .i64 own, .slice A n c] 27)).alloc (.cells #[.string ⟨#[]⟩, .slice none 0 0] 56)).heap.size = w.heap.size + 2 := by simp
  clear hr
  go_enter Try.func40, Try.ntmps40
  go_upto_region 1 with fail
  generalize (w.alloc (.cells #[.int .i64 own, .slice A n c] 27)).alloc (.cells #[.string ⟨#[]⟩, .slice none 0 0] 56) = w0 at *
  generalize hg : w.heap.size = g at *
  have c00 : w0.cell? ⟨g, 0, none⟩ = some (.int .i64 own) := by rw [cell_of_row _ _ 0 _ _ _ X0.out]; rfl
  have c01 : w0.cell? ⟨g, 1, none⟩ = some (.slice A n c) := by rw [cell_of_row _ _ 1 _ _ _ X0.out]; rfl
  go_wp2_with fail
  refine (check_v own A n c B rs w0 (HR.out.below (B0.out.mono hB)) (by omega) hn).mono ?_
  rintro e w1 ⟨rfl, b1⟩
  have X1 := Lib.hid ((b1.block g (by omega)).trans X0.out)
  have Y1 := Lib.hid ((b1.block (g + 1) (by omega)).trans Y0.out)
  have B1 := Lib.hid (B0.out.trans (b1.mono (by omega)))
  have hz1 := b1.size
  have c10 : w1.cell? ⟨g, 0, none⟩ = some (.int .i64 own) := by rw [cell_of_row _ _ 0 _ _ _ X1.out]; rfl
  have c11 : w1.cell? ⟨g, 1, none⟩ = some (.slice A n c) := by rw [cell_of_row _ _ 1 _ _ _ X1.out]; rfl
  clear b1 c00 c01 X0 Y0
  obtain ⟨ck, hck⟩ : ∃ ck, chkM (own, rs.map Rw.p) = ck := ⟨_, rfl⟩
  have HCK := Lib.hid hck
  rw [hck]
  by_cases h0 : ck = 0
  case neg =>
    have XS := Lib.hid (setRow_heap w1 (g + 1) _ #[.string ⟨#[]⟩, .slice none 0 0] _ _ Y1.out)
    have BS := Lib.hid (below_setRow B1.out (Nat.le_succ _) #[.string ⟨#[]⟩, .slice none 0 0])
    have HNO := Lib.hid (show rowP (own, rs.map Rw.p) f = none by unfold rowP; rw [if_neg (by rw [hck]; exact h0)])
    have d1 : ((ck : Int) != 0) = true := by simpa using h0
    clear hck h0
    go_wp2_with (first
      | (refine wpList_store_row rfl 56 (.tmp 4) (.tmp 11) rfl (g + 1) #[.string ⟨#[]⟩, .slice none 0 0] rfl rfl 56 _ Y1.out HI.out rfl (by simp [Value.oneCell']) ?_)
      | fail)
    exact bodyPost_ret (results_row_tmp Try.results40 _ _ (g + 1) _ #[.string ⟨#[]⟩, .slice none 0 0] _ _ rfl XS.out Try.underlying56 rfl HI.out) rfl
      ⟨_, _, _, _, [], false, rfl, fun h => (by cases h), fun _ => HNO.out, hg ▸ BS.out⟩
  subst h0
  have HR1 := Lib.hid (HR.out.below (B1.out.mono hB))
  go_wp2_with fail
  refine (find_v own A n c B rs f w1 HR1.out (by omega) HCK.out).mono ?_
  rintro e w2 ⟨i, b, rfl, hin, h2, h3, b2⟩
  have H2 := Lib.hid h2
  have H3 := Lib.hid h3
  have X2 := Lib.hid ((b2.block g (by omega)).trans X1.out)
  have Y2 := Lib.hid ((b2.block (g + 1) (by omega)).trans Y1.out)
  have B2 := Lib.hid (B1.out.trans (b2.mono (by omega)))
  have hz2 := b2.size
  have c20 : w2.cell? ⟨g, 0, none⟩ = some (.int .i64 own) := by rw [cell_of_row _ _ 0 _ _ _ X2.out]; rfl
  have c21 : w2.cell? ⟨g, 1, none⟩ = some (.slice A n c) := by rw [cell_of_row _ _ 1 _ _ _ X2.out]; rfl
  have HRL := Lib.hid HR.out.len
  clear h2 h3 b2 c10 c11 X1 Y1 hck
  cases b with
  | false =>
    have XS := Lib.hid (setRow_heap w2 (g + 1) _ #[.string ⟨#[]⟩, .slice none 0 0] _ _ Y2.out)
    have BS := Lib.hid (below_setRow B2.out (Nat.le_succ _) #[.string ⟨#[]⟩, .slice none 0 0])
    have HNO := Lib.hid (show rowP (own, rs.map Rw.p) f = none by
      unfold rowP
      rw [if_pos HCK.out]
      exact find_none (no_row (asc_of HCK.out) H2.out fun h => by have := H3.out.2 h; cases this))
    go_wp2_with (first
      | (refine wpList_store_row rfl 56 (.tmp 4) (.tmp 20) rfl (g + 1) #[.string ⟨#[]⟩, .slice none 0 0] rfl rfl 56 _ Y2.out HI.out rfl (by simp [Value.oneCell']) ?_)
      | fail)
    exact bodyPost_ret (results_row_tmp Try.results40 _ _ (g + 1) _ #[.string ⟨#[]⟩, .slice none 0 0] _ _ rfl XS.out Try.underlying56 rfl HI.out) rfl
      ⟨_, _, _, _, [], false, rfl, fun h => (by cases h), fun _ => HNO.out, hg ▸ BS.out⟩
  | true =>
    obtain ⟨r, hri, hrf⟩ := H3.out.1 rfl
    have hin2 : i < n := by rw [← HRL.out]; exact (List.getElem?_eq_some_iff.1 hri).1
    obtain ⟨ad, rf, ra, rn, rc, ds, rfl, hx, _, hcs, _⟩ := HR.out.at_ hin2
    rw [hri] at hx
    obtain rfl := Option.some.inj hx
    have XS := Lib.hid (setRow_heap w2 (g + 1) _ #[.string rf, .slice ra rn rc] _ _ Y2.out)
    have BS := Lib.hid (below_setRow B2.out (Nat.le_succ _) #[.string rf, .slice ra rn rc])
    have HYES := Lib.hid (show rowP (own, rs.map Rw.p) f = some (rf, ds) by
      unfold rowP
      rw [if_pos HCK.out]
      exact find_at (rows_all (chk_ok HCK.out).2.2).2 (p_at hri) hrf)
    have HCS := Lib.hid (hcs w2 (B2.out.mono hB))
    have HM := Lib.hid (List.mem_of_getElem? hri)
    have i0 : (0 : Int) ≤ (i : Int) := by omega
    clear hri hrf hx hcs
    go_wp2_with (first
      | (refine wpList_load_slot rfl 56 (.tmp 24) rfl (ad.add (i * 2)) rfl [.string rf, .slice ra rn rc] _ HCS.out Try.underlying56 rfl HI.out ?_)
      | (refine wpList_store_row rfl 56 (.tmp 4) (.tmp 25) rfl (g + 1) #[.string rf, .slice ra rn rc] rfl rfl 56 _ Y2.out HI.out rfl (by simp [Value.oneCell']) ?_)
      | fail)
    exact bodyPost_ret (results_row_tmp Try.results40 _ _ (g + 1) _ #[.string rf, .slice ra rn rc] _ _ rfl XS.out Try.underlying56 rfl HI.out) rfl
      ⟨rf, ra, rn, rc, ds, true, rfl, fun _ => ⟨HYES.out, HM.out⟩, fun h => (by cases h), hg ▸ BS.out⟩
set_option maxRecDepth 100000 in
set_option maxHeartbeats 4000000 in
theorem has_v (own : Int) (A : Option Addr) (n c B : Nat) (rs : List Rw) (f : ByteArray) (w : World) (hr : RowsR w B A n rs) (hB : B ≤ w.heap.size) (hn : n ≤ 9223372036854775807) :
    Calls Try.prog 15 #[.agg #[.int .i64 own, .slice A n c], .string f] w fun e w' => e = .returned (.bool (hasP (own, rs.map Rw.p) f)) ∧ Below w.heap.size w w' := by
  have HR := Lib.hid hr
  have B0 := Lib.hid ((Below.refl w.heap.size w).alloc (Nat.le_refl _) (.cells #[.int .i64 own, .slice A n c] 27))
  clear hr
  go_enter Try.func15, Try.ntmps15
  go_wp2_with fail
  refine (row_v own A n c B rs f _ (HR.out.below (B0.out.mono hB)) (by simp; omega) hn).mono ?_
  rintro e w1 ⟨rf, ra, rn, rc, ds, b, rfl, h1, h2, hb⟩
  have HH := Lib.hid (show hasP (own, rs.map Rw.p) f = b by
    unfold hasP
    cases b with
    | true => rw [(h1 rfl).1]; rfl
    | false => rw [h2 rfl]; rfl)
  have HB := Lib.hid (B0.out.trans (hb.mono (by simp)))
  clear h1 h2 hb
  go_wp2_with fail
  go_ret
  exact ⟨by rw [HH.out]; rfl, HB.out.alloc (by have := HB.out.size; omega) _⟩
set_option maxRecDepth 100000 in
set_option maxHeartbeats 4000000 in
theorem index_v (A : Option Addr) (n c B : Nat) (ds : List Int) (d : Int) (w : World) (hr : IReads w B A n ds) (hn : n ≤ 9223372036854775807) :
    Calls Try.prog 58 #[.slice A n c, .int .i64 d] w fun e w' => ∃ z : Int, e = .returned (.int .i64 z) ∧ (0 ≤ z ↔ d ∈ ds) ∧ w = w' := by
  have HR := Lib.hid hr
  have HLN := Lib.hid hr.len
  clear hr
  go_enter Try.func58, Try.ntmps58
  go_wp2_with fail
  go_loopw [8] (fun i wr => ∃ k : Nat, k ≤ n ∧ i = .int .i64 (k : Int) ∧ (∀ x ∈ ds.take k, x ≠ d) ∧ w = wr) (fun i _ => n - (intOf i).toNat)
  case atStart => exact ⟨0, Nat.zero_le _, rfl, by simp, rfl⟩
  case round =>
    obtain ⟨k, hk, rfl, ht, rfl⟩ := hrel
    have HT := Lib.hid ht
    clear ht
    by_cases hlt : k < n
    · obtain ⟨ad, x, rfl, hx, hc⟩ := HR.out.at_ hlt
      have q0 := hc w (Below.refl _ _)
      have HX := Lib.hid hx
      have k0 : (0 : Int) ≤ (k : Int) := by omega
      clear hx hc
      by_cases hd : d = x
      · have d1 : (d == x) = true := beq_iff_eq.2 hd
        have HM := Lib.hid (show d ∈ ds by rw [hd]; exact List.mem_of_getElem? HX.out)
        clear hd
        go_wp2_with fail
        go_ret
        exact ⟨(k : Int), rfl, ⟨fun _ => HM.out, fun _ => k0⟩, rfl⟩
      · have d1 : (d == x) = false := beq_eq_false_iff_ne.2 hd
        have HN := Lib.hid (show ∀ y ∈ ds.take (k + 1), y ≠ d from fun y hy => by
          rw [List.take_add_one, HX.out] at hy
          rcases List.mem_append.1 hy with hy | hy
          · exact HT.out y hy
          · obtain rfl : y = x := by simpa using hy
            exact fun e => hd e.symm)
        clear hd
        go_wp2_with fail
        go_roundw
        case rel => exact ⟨k + 1, hlt, by go_num, HN.out, by trivial⟩
        case measure => simp [intOf]; omega
    · obtain rfl : k = n := by omega
      have HN := Lib.hid (show ¬ d ∈ ds from fun h => by
        have h1 := HT.out
        rw [List.take_of_length_le (by rw [HLN.out]; exact Nat.le_refl _)] at h1
        exact h1 d h rfl)
      go_wp2_with fail
      go_ret
      exact ⟨-1, rfl, ⟨fun h => by omega, fun h => absurd h HN.out⟩, rfl⟩
set_option maxRecDepth 100000 in
theorem contains_v (A : Option Addr) (n c B : Nat) (ds : List Int) (d : Int) (w : World) (hr : IReads w B A n ds) (hn : n ≤ 9223372036854775807) :
    Calls Try.prog 41 #[.slice A n c, .int .i64 d] w fun e w' => e = .returned (.bool (decide (d ∈ ds))) ∧ w = w' := by
  have HR := Lib.hid hr
  clear hr
  go_enter Try.func41, Try.ntmps41
  go_wp2_with fail
  refine (index_v A n c B ds d w HR.out hn).mono ?_
  rintro e _ ⟨z, rfl, hz, rfl⟩
  have HZ := Lib.hid (show decide (d ∈ ds) = decide (0 ≤ z) from decide_eq_decide.2 hz.symm)
  clear hz
  go_wp2_with fail
  go_ret
  exact ⟨by rw [HZ.out]; rfl, rfl⟩
set_option maxRecDepth 100000 in
set_option maxHeartbeats 4000000 in
theorem shares_v (own : Int) (A : Option Addr) (n c B : Nat) (rs : List Rw) (f : ByteArray) (d : Int) (w : World) (hr : RowsR w B A n rs) (hB : B ≤ w.heap.size) (hn : n ≤ 9223372036854775807) :
    Calls Try.prog 16 #[.agg #[.int .i64 own, .slice A n c], .string f, .int .i64 d] w fun e w' => e = .returned (.bool (sharesP (own, rs.map Rw.p) f d)) ∧ Below w.heap.size w w' := by
  have HR := Lib.hid hr
  have B0 := Lib.hid ((Below.refl w.heap.size w).alloc (Nat.le_refl _) (.cells #[.int .i64 own, .slice A n c] 27))
  clear hr
  go_enter Try.func16, Try.ntmps16
  go_wp2_with fail
  refine (row_v own A n c B rs f _ (HR.out.below (B0.out.mono hB)) (by simp; omega) hn).mono ?_
  rintro e w1 ⟨rf, ra, rn, rc, ds, b, rfl, h1, h2, hb⟩
  have HB := Lib.hid (B0.out.trans (hb.mono (by simp)))
  clear hb
  cases b with
  | false =>
    have HH := Lib.hid (show sharesP (own, rs.map Rw.p) f d = false by unfold sharesP; rw [h2 rfl])
    clear h1 h2
    go_wp2_with fail
    go_ret
    exact ⟨by rw [HH.out]; rfl, HB.out.alloc (by have := HB.out.size; omega) _⟩
  | true =>
    have HH := Lib.hid (show sharesP (own, rs.map Rw.p) f d = decide (d ∈ ds) by unfold sharesP; rw [(h1 rfl).1])
    have HI := Lib.hid ((HR.out.below (HB.out.mono hB)).each _ (h1 rfl).2)
    have HBA := Lib.hid (HB.out.alloc (by have := HB.out.size; omega) (.cells #[.string rf, .slice ra rn rc] 56))
    have hz1 := HB.out.size
    have hrn := HI.out.lc
    have hrc := HI.out.cm
    clear h1 h2
    simp only at hrn hrc
    go_wp2_with fail
    refine (contains_v ra rn rc B ds d _ (Reads.alloc HI.out.i (by omega) _) (by omega)).mono ?_
    rintro e _ ⟨rfl, rfl⟩
    go_wp2_with fail
    go_ret
    exact ⟨by rw [HH.out]; rfl, HBA.out⟩
end Go.Proofs.Ytikegnnlmfidfaa
