/-
  Matrices that can be read; Check.
-/
import Derived.Test.YtikegnnlmfidfaaMatA
namespace Go.Proofs.Ytikegnnlmfidfaa
open Go.RowKit
abbrev IReads (w : World) (B : Nat) (A : Option Addr) (n : Nat) (l : List Int) : Prop := Reads w B 1 A n (l.map (Value.int .i64))
theorem IReads.len {w : World} {B n : Nat} {A : Option Addr} {l : List Int} (h : IReads w B A n l) : l.length = n := by have := h.1; simpa using this
theorem IReads.at_ {w : World} {B n k : Nat} {A : Option Addr} {l : List Int} (h : IReads w B A n l) (hk : k < n) :
    ∃ ad d, A = some ad ∧ l[k]? = some d ∧ ∀ W, Below B w W → W.cell? (ad.add k) = some (.int .i64 d) := by
  obtain ⟨ad, u, e, hb, hu, hc⟩ := Reads.at_ (show Reads w B 1 A n _ from h) hk
  rw [List.getElem?_map] at hu
  cases hl : l[k]? with
  | none => rw [hl] at hu; cases hu
  | some x =>
    rw [hl] at hu
    injection hu with hu
    subst hu
    exact ⟨ad, x, e, rfl, fun W hW => (hW.cell (by rw [block_of_add]; exact hb)).trans hc⟩
/-- A row: its name, its slice, and what the slice holds. -/
structure Rw where
  f : ByteArray
  a : Option Addr
  n : Nat
  c : Nat
  ds : List Int
def Rw.cells (r : Rw) : List Value := [.string r.f, .slice r.a r.n r.c]
def Rw.p (r : Rw) : PRow := (r.f, r.ds)
theorem Rw.cells_len (r : Rw) : r.cells.length = 2 := rfl
structure RwIn (w : World) (B : Nat) (r : Rw) : Prop where
  i : IReads w B r.a r.n r.ds
  lc : r.n ≤ r.c
  cm : r.c ≤ 9223372036854775807
  fs : r.f.size ≤ 9223372036854775807
structure RowsR (w : World) (B : Nat) (A : Option Addr) (n : Nat) (rs : List Rw) : Prop where
  row : Reads w B 2 A n (rs.flatMap Rw.cells)
  each : ∀ r ∈ rs, RwIn w B r
section
variable {w w' : World} {B B' n : Nat} {A : Option Addr} {rs : List Rw}
theorem RwIn.below {r : Rw} (h : RwIn w B r) (hb : Below B w w') : RwIn w' B r := ⟨Reads.below h.i hb, h.lc, h.cm, h.fs⟩
theorem RwIn.more {r : Rw} (h : RwIn w B r) (hB : B ≤ B') : RwIn w B' r := ⟨Reads.more h.i hB, h.lc, h.cm, h.fs⟩
theorem RowsR.below (h : RowsR w B A n rs) (hb : Below B w w') : RowsR w' B A n rs := ⟨h.row.below hb, fun r hr => (h.each r hr).below hb⟩
theorem RowsR.more (h : RowsR w B A n rs) (hB : B ≤ B') : RowsR w B' A n rs := ⟨Reads.more h.row hB, fun r hr => (h.each r hr).more hB⟩
theorem RowsR.len (h : RowsR w B A n rs) : rs.length = n := by
  have h1 := h.row.1
  rw [flat_len Rw.cells_len] at h1
  omega
theorem RowsR.at_ {k : Nat} (h : RowsR w B A n rs) (hk : k < n) :
    ∃ ad rf ra rn rc ds, A = some ad ∧ rs[k]? = some ⟨rf, ra, rn, rc, ds⟩ ∧ (IReads w B ra rn ds ∧ rn ≤ rc ∧ rc ≤ 9223372036854775807 ∧ rf.size ≤ 9223372036854775807) ∧
      (∀ W, Below B w W → ∀ j u, ([.string rf, .slice ra rn rc] : List Value)[j]? = some u → W.cell? ((ad.add (k * 2)).add j) = some u) ∧
      ∀ W, Below B w W → W.cell? (ad.add (k * 2)) = some (.string rf) ∧ W.cell? ⟨(ad.add (k * 2)).block, (ad.add (k * 2)).off + 1, none⟩ = some (.slice ra rn rc) := by
  have hl : k < rs.length := by rw [h.len]; exact hk
  obtain ⟨ad, e, hb, hc⟩ := h.row.2 (by omega)
  obtain ⟨rf, ra, rn, rc, ds, hrk⟩ : ∃ rf ra rn rc ds, rs[k] = ⟨rf, ra, rn, rc, ds⟩ := ⟨_, _, _, _, _, rfl⟩
  have hx : rs[k]? = some ⟨rf, ra, rn, rc, ds⟩ := by rw [List.getElem?_eq_getElem hl, hrk]
  have key : ∀ W, Below B w W → ∀ j u, ([.string rf, .slice ra rn rc] : List Value)[j]? = some u → W.cell? ((ad.add (k * 2)).add j) = some u := fun W hW j u hu => by
    have hj : j < 2 := (List.getElem?_eq_some_iff.1 hu).1
    have h1 := flat_at Rw.cells_len rs hx hj
    rw [add_of_add]
    exact (hW.cell (by rw [block_of_add]; exact hb)).trans (hc _ u (h1.trans hu))
  have he := h.each _ (List.mem_of_getElem? hx)
  refine ⟨ad, rf, ra, rn, rc, ds, e, hx, ⟨he.i, he.lc, he.cm, he.fs⟩, key, fun W hW => ⟨?_, key W hW 1 _ rfl⟩⟩
  have h1 := key W hW 0 _ rfl
  rwa [add_zero] at h1
end
theorem drop_at {α : Type} {l : List α} {k : Nat} {x : α} (h : l[k]? = some x) : l.drop k = x :: l.drop (k + 1) := by
  obtain ⟨hl, rfl⟩ := List.getElem?_eq_some_iff.1 h
  exact List.drop_eq_getElem_cons hl
theorem rows_step {own : Int} {last : ByteArray} {rs : List PRow} {r : PRow} {k : Nat} (h : rs[k]? = some r) :
    rowsOk own last (rs.drop k) = (folderP r.1 && klt last r.1 && withOk own 0 r.2 && rowsOk own r.1 (rs.drop (k + 1))) := by rw [drop_at h]; rfl
theorem with_step {own n : Int} {ds : List Int} {d : Int} {k : Nat} (h : ds[k]? = some d) :
    withOk own n (ds.drop k) = (dev d && !decide (d = own) && decide (n < d) && withOk own d (ds.drop (k + 1))) := by rw [drop_at h]; rfl
theorem p_at {rs : List Rw} {k : Nat} {r : Rw} (h : rs[k]? = some r) : (rs.map Rw.p)[k]? = some (r.f, r.ds) := by rw [List.getElem?_map, h]; rfl
theorem leF {a b : ByteArray} (h : klt b a = true) : Op.bytesLess a.toList b.toList = false ∧ (a.toList == b.toList) = false :=
  ⟨klt_asymm h, (kbeq_false a b).2 (fun e => klt_ne h e.symm)⟩
theorem leT {a b : ByteArray} (h : klt b a = false) : Op.bytesLess a.toList b.toList = true ∨ (Op.bytesLess a.toList b.toList = false ∧ (a.toList == b.toList) = true) := by
  by_cases e : a = b
  · exact .inr ⟨by rw [e]; exact klt_irrefl b, (kbeq_iff a b).2 e⟩
  · exact .inl (klt_total (fun h => e h.symm) h)
theorem info_row : (Try.prog.info? 56).map (fun i => (i.zero, i.size, i.bytes)) = some (some (.agg #[.string ⟨#[]⟩, .slice none 0 0]), 2, 40) := by kernel_rfl
theorem info_mat : (Try.prog.info? 27).map (fun i => (i.zero, i.size, i.bytes)) = some (some (.agg #[.int .i64 0, .slice none 0 0]), 2, 32) := by kernel_rfl
set_option maxRecDepth 100000 in
set_option maxHeartbeats 8000000 in
theorem check_v (own : Int) (A : Option Addr) (n c B : Nat) (rs : List Rw) (w : World) (hr : RowsR w B A n rs) (hB : B ≤ w.heap.size) (hn : n ≤ 9223372036854775807) :
    Calls Try.prog 14 #[.agg #[.int .i64 own, .slice A n c]] w fun e w' => e = .returned (.int .i64 (chkM (own, rs.map Rw.p) : Int)) ∧ Below w.heap.size w w' := by
  have HI := Lib.hid (show (Try.prog.info? 56).map (·.size) = some 2 by kernel_rfl)
  have HR := Lib.hid hr
  have HLN := Lib.hid hr.len
  have B0 := Lib.hid ((Below.refl w.heap.size w).alloc (Nat.le_refl _) (.cells #[.int .i64 own, .slice A n c] 27))
  have X0 := Lib.hid (heap_alloc_new w (.cells #[.int .i64 own, .slice A n c] 27))
  have hz0 : (w.alloc (.cells #[.int .i64 own, .slice A n c] 27)).heap.size = w.heap.size + 1 := by simp
  clear hr
  go_enter Try.func14, Try.ntmps14
  by_cases h8 : 8 < n
  · have HC := Lib.hid (show chkM (own, rs.map Rw.p) = 3 by unfold chkM; rw [if_pos (by simp only [List.length_map]; rw [HLN.out]; exact h8)])
    have d1 : decide (8 < (n : Int)) = true := decide_eq_true (by omega)
    have d2 : decide (8 < n) = true := decide_eq_true h8
    go_wp2_with fail
    go_ret
    exact ⟨by rw [HC.out]; rfl, B0.out⟩
  have d1 : decide (8 < (n : Int)) = false := decide_eq_false (by omega)
  have d2 : decide (8 < n) = false := decide_eq_false h8
  go_wp2_with fail
  refine (dev_v own _).mono ?_
  rintro e _ ⟨rfl, rfl⟩
  cases hd : dev own with
  | false =>
    have HC := Lib.hid (show chkM (own, rs.map Rw.p) = 2 by unfold chkM; rw [if_neg (by simp only [List.length_map]; rw [HLN.out]; exact h8), if_pos hd])
    clear hd
    go_wp2_with fail
    go_ret
    exact ⟨by rw [HC.out]; rfl, B0.out⟩
  | true =>
  have HC := Lib.hid (show chkM (own, rs.map Rw.p) = if rowsOk own emp (rs.map Rw.p) then 0 else 2 by unfold chkM; rw [if_neg (by simp only [List.length_map]; rw [HLN.out]; exact h8), if_neg (by rw [hd]; simp)])
  clear hd d1 d2
  go_wp2_with fail
  generalize w.alloc (.cells #[.int .i64 own, .slice A n c] 27) = w0 at *
  generalize hg : w.heap.size = g at *
  go_loopw [3, 20] (fun la i wr => ∃ (k : Nat) (last : ByteArray), k ≤ n ∧ i = .int .i64 (k : Int) ∧ la = .string last ∧ rowsOk own last ((rs.map Rw.p).drop k) = rowsOk own emp (rs.map Rw.p) ∧ Below w0.heap.size w0 wr) (fun _ i _ => n - (intOf i).toNat)
  case atStart => exact ⟨0, emp, Nat.zero_le _, rfl, rfl, rfl, Below.refl _ _⟩
  case round =>
    obtain ⟨k, last, hk, rfl, rfl, hok, hb⟩ := hrel
    have HO := Lib.hid hok
    have HB := Lib.hid hb
    have hzb := hb.size
    have XR := Lib.hid ((hb.block g (by omega)).trans X0.out)
    have B1 := Lib.hid (B0.out.trans (hb.mono (by omega)))
    clear hok hb
    by_cases hlt : k < n
    · obtain ⟨ad, rf, ra, rn, rc, ds, rfl, hx, ⟨hri, hrn, hrc, hfs⟩, hcs, hc2⟩ := HR.out.at_ hlt
      have HX := Lib.hid hx
      have HRI := Lib.hid hri
      have HCS := Lib.hid (hcs wr (B1.out.mono hB))
      have hst := rows_step (own := own) (last := last) (p_at hx)
      rw [HO.out] at hst
      have HST := Lib.hid hst
      have k0 : (0 : Int) ≤ (k : Int) := by omega
      clear hx hri hcs hc2 hst
      go_wp2_with (first
        | (refine wpList_load_slot rfl 56 (.tmp 22) rfl (ad.add (k * 2)) rfl [.string rf, .slice ra rn rc] _ HCS.out Try.underlying56 rfl HI.out ?_)
        | fail)
      have BR := (Below.refl wr.heap.size wr).alloc (Nat.le_refl _) (.cells #[.string rf, .slice ra rn rc] 56)
      have X1 := Lib.hid (heap_alloc_new wr (.cells #[.string rf, .slice ra rn rc] 56))
      have XS := Lib.hid ((BR.block g (by omega)).trans XR.out)
      have HB2 := Lib.hid (HB.out.trans (BR.mono hzb))
      have hz2 : (wr.alloc (.cells #[.string rf, .slice ra rn rc] 56)).heap.size = wr.heap.size + 1 := by simp
      clear BR HCS
      generalize wr.alloc (.cells #[.string rf, .slice ra rn rc] 56) = w1 at *
      generalize wr.heap.size = g5 at *
      refine (folder_v rf w1 hfs).mono ?_
      rintro e w2 ⟨rfl, b2⟩
      have HB3 := Lib.hid (HB2.out.trans (b2.mono (by omega)))
      have X2 := Lib.hid ((b2.block g5 (by omega)).trans X1.out)
      have XT := Lib.hid ((b2.block g (by omega)).trans XS.out)
      have c50 : w2.cell? ⟨g5, 0, none⟩ = some (.string rf) := by rw [cell_of_row _ _ 0 _ _ _ X2.out]; rfl
      have c51 : w2.cell? ⟨g5, 1, none⟩ = some (.slice ra rn rc) := by rw [cell_of_row _ _ 1 _ _ _ X2.out]; rfl
      have hz3 := b2.size
      have B3 := Lib.hid (B0.out.trans (HB3.out.mono (by omega)))
      clear b2 HB HB2 X1 XS XR B1
      cases hf : folderP rf with
      | false =>
        have HE := Lib.hid (show chkM (own, rs.map Rw.p) = 2 by rw [HC.out, HST.out, hf]; rfl)
        clear hf
        go_wp2_with fail
        go_ret
        exact ⟨by rw [HE.out]; rfl, hg ▸ B3.out⟩
      | true =>
      cases hl : klt last rf with
      | false =>
        have HE := Lib.hid (show chkM (own, rs.map Rw.p) = 2 by rw [HC.out, HST.out, hl]; simp)
        rcases leT hl with e1 | ⟨e1, e2⟩
        all_goals clear hf hl
        all_goals go_wp2_with fail
        all_goals go_ret
        all_goals exact ⟨by rw [HE.out]; rfl, hg ▸ B3.out⟩
      | true =>
      obtain ⟨e1, e2⟩ := leF hl
      have HS2 := Lib.hid (show rowsOk own emp (rs.map Rw.p) = (withOk own 0 ds && rowsOk own rf ((rs.map Rw.p).drop (k + 1))) by rw [HST.out, hf, hl]; rfl)
      clear hf hl HST HO
      have HRI2 := Lib.hid (show IReads w2 B ra rn ds from Reads.below HRI.out (B3.out.mono hB))
      go_wp2_with fail
      clear e1 e2
      go_loopw [6, 39] (fun nn j ws => ∃ (i : Nat) (pr : Int), i ≤ rn ∧ j = .int .i64 (i : Int) ∧ nn = .int .i64 pr ∧ withOk own pr (ds.drop i) = withOk own 0 ds ∧ w2 = ws) (fun _ j _ => rn - (intOf j).toNat)
      case atStart => exact ⟨0, 0, Nat.zero_le _, rfl, rfl, rfl, rfl⟩
      case round =>
        obtain ⟨i, pr, hi, rfl, rfl, hwo, rfl⟩ := hrel
        have HW := Lib.hid hwo
        clear hwo
        by_cases hin : i < rn
        · obtain ⟨ai, d, hai, hd, hdc⟩ := IReads.at_ HRI2.out hin
          have i0 : (0 : Int) ≤ (i : Int) := by omega
          have hdc2 := hdc w2 (Below.refl _ _)
          have hst := with_step (own := own) (n := pr) hd
          rw [HW.out] at hst
          have HST := Lib.hid hst
          clear hdc hd hst
          subst hai
          cases hdd : dev d with
          | false =>
            have HE := Lib.hid (show chkM (own, rs.map Rw.p) = 2 by rw [HC.out, HS2.out, HST.out, hdd]; rfl)
            have HV := Lib.hid (show ∀ w, Calls Try.prog 39 #[.int .i64 d] w fun e w' => e = .returned (.bool false) ∧ w = w' from fun w => by rw [← hdd]; exact dev_v d w)
            clear hdd
            go_wp2_with fail
            refine (HV.out _).mono ?_
            rintro e _ ⟨rfl, rfl⟩
            go_wp2_with fail
            go_ret
            exact ⟨by rw [HE.out]; rfl, hg ▸ B3.out⟩
          | true =>
          have HV := Lib.hid (show ∀ w, Calls Try.prog 39 #[.int .i64 d] w fun e w' => e = .returned (.bool true) ∧ w = w' from fun w => by rw [← hdd]; exact dev_v d w)
          have c01 : w2.cell? ⟨g, 0, none⟩ = some (.int .i64 own) := by rw [cell_of_row _ _ 0 _ _ _ XT.out]; rfl
          by_cases ho : d = own
          · have HE := Lib.hid (show chkM (own, rs.map Rw.p) = 2 by rw [HC.out, HS2.out, HST.out, hdd, ho]; simp)
            have g1 : (d == own) = true := beq_iff_eq.2 ho
            clear hdd ho
            go_wp2_with fail
            refine (HV.out _).mono ?_
            rintro e _ ⟨rfl, rfl⟩
            go_wp2_with fail
            go_ret
            exact ⟨by rw [HE.out]; rfl, hg ▸ B3.out⟩
          have g1 : (d == own) = false := beq_eq_false_iff_ne.2 ho
          by_cases hp : pr < d
          case neg =>
            have HE := Lib.hid (show chkM (own, rs.map Rw.p) = 2 by rw [HC.out, HS2.out, HST.out, hdd, decide_eq_false hp]; simp)
            have g2 : decide (d ≤ pr) = true := decide_eq_true (by omega)
            clear hdd ho hp
            go_wp2_with fail
            refine (HV.out _).mono ?_
            rintro e _ ⟨rfl, rfl⟩
            go_wp2_with fail
            go_ret
            exact ⟨by rw [HE.out]; rfl, hg ▸ B3.out⟩
          have g2 : decide (d ≤ pr) = false := decide_eq_false (by omega)
          have HN := Lib.hid (show withOk own d (ds.drop (i + 1)) = withOk own 0 ds by rw [HST.out, hdd, decide_eq_false ho, decide_eq_true hp]; simp)
          clear hdd ho hp
          go_wp2_with fail
          refine (HV.out _).mono ?_
          rintro e _ ⟨rfl, rfl⟩
          go_wp2_with fail
          go_roundw
          case rel => exact ⟨i + 1, d, hin, by go_num, rfl, HN.out, by trivial⟩
          case measure => simp [intOf]; omega
        · obtain rfl : i = rn := by omega
          have HN := Lib.hid (show rowsOk own rf ((rs.map Rw.p).drop (k + 1)) = rowsOk own emp (rs.map Rw.p) by
            have h1 : withOk own 0 ds = true := by rw [← HW.out, List.drop_of_length_le (by rw [HRI.out.len]; exact Nat.le_refl _)]; rfl
            rw [HS2.out, h1]
            rfl)
          go_wp2_with fail
          go_roundw
          case rel => exact ⟨k + 1, rf, hlt, by go_num, rfl, HN.out, HB3.out⟩
          case measure => simp [intOf]; omega
    · obtain rfl : k = n := by omega
      have HE := Lib.hid (show chkM (own, rs.map Rw.p) = 0 by
        rw [HC.out, ← HO.out, List.drop_of_length_le (by rw [List.length_map, HLN.out]; exact Nat.le_refl _)]
        rfl)
      go_wp2_with fail
      go_ret
      exact ⟨by rw [HE.out]; rfl, hg ▸ B1.out⟩
end Go.Proofs.Ytikegnnlmfidfaa
