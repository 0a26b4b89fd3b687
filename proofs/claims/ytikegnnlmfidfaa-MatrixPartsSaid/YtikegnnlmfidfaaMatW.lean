/-
  Matrices: the reference's With.
-/
import Derived.Test.YtikegnnlmfidfaaMatP
import Derived.Test.YtikegnnlmfidfaaText
namespace Go.Proofs.Ytikegnnlmfidfaa
open Go.RowKit
/-- Whether a row is shared, as the reference asks it. -/
def withR (m : PM) (rs : List PRow) (d : Int) : List ByteArray := (rs.filter fun r => sharesP m r.1 d).map (·.1)
theorem withR_step {m : PM} {rs : List Rw} {k : Nat} {r : Rw} {d : Int} (hx : rs[k]? = some r) : withR m ((rs.take (k + 1)).map Rw.p) d = withR m ((rs.take k).map Rw.p) d ++ if sharesP m r.f d then [r.f] else [] := by
  unfold withR
  rw [List.take_add_one, hx, List.map_append, List.filter_append, List.map_append]
  congr 1
  cases h : sharesP m r.f d
  · simp [Rw.p, h]
  · simp [Rw.p, h]
theorem withR_len {m : PM} {rs : List Rw} {k : Nat} {d : Int} : (withR m ((rs.take k).map Rw.p) d).length ≤ k := by
  unfold withR
  rw [List.length_map]
  refine Nat.le_trans (List.length_filter_le _ _) ?_
  rw [List.length_map, List.length_take]
  omega
/-- A matrix's rows have names of their own. -/
theorem withR_eq (m : PM) (d : Int) : withR m m.2 d = withP m d := by
  unfold withP
  by_cases h0 : chkM m = 0
  · rw [if_pos h0]
    unfold withR
    congr 1
    refine List.filter_congr fun r hr => ?_
    obtain ⟨i, hi, rfl⟩ := List.getElem_of_mem hr
    have hf := find_at (rows_all (chk_ok h0).2.2).2 (List.getElem?_eq_getElem hi) rfl
    unfold sharesP rowP
    rw [if_pos h0, hf]
  · rw [if_neg h0]
    unfold withR
    rw [List.filter_eq_nil_iff.2 (fun r _ => by unfold sharesP rowP; rw [if_neg h0]; simp)]
    rfl
set_option maxRecDepth 100000 in
set_option maxHeartbeats 8000000 in
theorem rwith_v (own : Int) (A : Option Addr) (n c B : Nat) (rs : List Rw) (d : Int) (w : World) (hr : RowsR w B A n rs) (hB : B ≤ w.heap.size) (hn : n ≤ 100000) :
    Calls Try.prog 33 #[.agg #[.int .i64 own, .slice A n c], .int .i64 d] w fun e w' => ∃ A' n' c', e = .returned (.slice A' n' c') ∧ SReads w' w'.heap.size A' n' (withP (own, rs.map Rw.p) d) ∧ n' ≤ c' ∧ n' ≤ n ∧ Below w.heap.size w w' := by
  have HR := Lib.hid hr
  have HLN := Lib.hid hr.len
  have HIM := Lib.hid (show (Try.prog.info? 27).map (·.size) = some 2 by kernel_rfl)
  have B0 := Lib.hid ((Below.refl w.heap.size w).alloc (Nat.le_refl _) (.cells #[.int .i64 own, .slice A n c] 27))
  have X0 := Lib.hid (heap_alloc_new w (.cells #[.int .i64 own, .slice A n c] 27))
  have hz0 : (w.alloc (.cells #[.int .i64 own, .slice A n c] 27)).heap.size = w.heap.size + 1 := by simp
  clear hr
  go_enter Try.func33, Try.ntmps33
  go_upto_region 1 with fail
  generalize w.alloc (.cells #[.int .i64 own, .slice A n c] 27) = w0 at *
  generalize hg : w.heap.size = g at *
  have hg0 : g < w0.heap.size := by omega
  clear hz0
  go_wp2_with fail
  go_loopw [5, 6] (fun o i wr => ∃ (k m c' : Nat) (A' : Option Addr), k ≤ n ∧ i = .int .i64 (k : Int) ∧ o = .slice A' m c' ∧ SOwn wr w0.heap.size A' m c' (withR (own, rs.map Rw.p) ((rs.take k).map Rw.p) d) ∧ Below w0.heap.size w0 wr) (fun _ i _ => n - (intOf i).toNat)
  case atStart => exact ⟨0, 0, 0, none, Nat.zero_le _, rfl, rfl, by simpa [withR] using SOwn.nil_ w0 _, Below.refl _ _⟩
  case round =>
    obtain ⟨k, m, c', A', hk, rfl, rfl, ho, hb⟩ := hrel
    have HO := Lib.hid ho
    have HB := Lib.hid hb
    have hzb := hb.size
    have B2 := Lib.hid (B0.out.trans (hb.mono (by omega)))
    have X2 := Lib.hid ((hb.block g hg0).trans X0.out)
    have hm : m ≤ k := by
      have h1 := ho.reads.len
      have h2 := withR_len (m := (own, rs.map Rw.p)) (rs := rs) (k := k) (d := d)
      omega
    have c0 : wr.cell? ⟨g, 0, none⟩ = some (.int .i64 own) := by rw [cell_of_row _ _ 0 _ _ _ X2.out]; rfl
    have c1 : wr.cell? ⟨g, 1, none⟩ = some (.slice A n c) := by rw [cell_of_row _ _ 1 _ _ _ X2.out]; rfl
    clear ho hb
    by_cases hlt : k < n
    · obtain ⟨ad, rf, ra, rn, rc, ds, rfl, hx, ⟨hri, hrn, hrc, hfs⟩, hcs, hc2⟩ := HR.out.at_ hlt
      have c2 := (hc2 wr (B2.out.mono hB)).1
      have HC2 := Lib.hid (show ∀ V, Below wr.heap.size wr V → V.cell? (ad.add (k * 2)) = some (.string rf) from fun V hV => (hc2 V ((B2.out.trans (hV.mono (by omega))).mono hB)).1)
      have HST := Lib.hid (withR_step (m := (own, rs.map Rw.p)) (d := d) hx)
      have k0 : (0 : Int) ≤ (k : Int) := by omega
      clear hx hri hcs hc2
      have hS : wr.drew.cell? ⟨g, 0, none⟩ = some (.int .i64 own) ∧ wr.drew.cell? ⟨g, 1, none⟩ = some (.slice (some ad) n c) ∧ wr.drew.cell? (ad.add (k * 2)) = some (.string rf) := ⟨c0, c1, c2⟩
      go_upto_region 5 with fail
      clear c0 c1 c2
      refine wp_region_text [(0, false), (1, false), (2, false), (3, false), (4, false), (5, false), (6, false), (7, false), (8, true)] (fun V => V.cell? ⟨g, 0, none⟩ = some (.int .i64 own) ∧ V.cell? ⟨g, 1, none⟩ = some (.slice (some ad) n c) ∧ V.cell? (ad.add (k * 2)) = some (.string rf)) (by kernel_rfl) (by kernel_rfl) (by kernel_rfl) (by kernel_rfl) (by kernel_rfl) (fun _ => ?_)
      simp only [outOf, List.getElem?_cons_zero, List.getElem?_cons_succ, Option.getD_some]
      have T0 := Lib.hid (show Below wr.heap.size wr wr.drew from (Below.refl _ _).drew)
      generalize wr.drew = v0 at *
      iterate 8 ((first | (refine TW.val2 (v := ?_) ?_ ?_ ?_ ?_ ?_; rotate_left; (focus rfl); (focus (intro W hSW; (try dsimp only at hSW); (try (obtain ⟨hS1, hSW⟩ := hSW)); (try (obtain ⟨hS2, hSW⟩ := hSW)); (try (obtain ⟨hS3, hSW⟩ := hSW)); (try (obtain ⟨hS4, hSW⟩ := hSW)); (try (obtain ⟨hS5, hSW⟩ := hSW)); (try (obtain ⟨hS6, hSW⟩ := hSW)); (try (obtain ⟨hS7, hSW⟩ := hSW)); (try (obtain ⟨hS8, hSW⟩ := hSW)); go_simp; (try with_reducible rfl); done)); (focus exact fun _ _ _ h => h); (focus assumption)) | (refine TW.skip (e := false) ?_ ?_ ?_ ?_; (focus rfl); (focus exact fun _ _ _ h => h); (focus assumption))); simp only [Act.put, List.setIfInBounds_toArray, List.set_cons_zero, List.set_cons_succ])
      refine TW.eff (by rfl) (fun K hK => ?_); go_simp
      have SV := rshares_v own (some ad) n c B rs rf d v0 (HR.out.below ((B2.out.trans (T0.out.mono (by omega))).mono hB)) (by have := T0.out.size; omega) (by omega)
      refine SV.mono ?_
      rintro e w2 ⟨rfl, b2⟩
      have T2 := Lib.hid (T0.out.trans (b2.mono T0.out.size))
      have hS1 := (⟨keepc b2 hS.1, keepc b2 hS.2.1, keepc b2 hS.2.2⟩ : w2.cell? ⟨g, 0, none⟩ = some (.int .i64 own) ∧ w2.cell? ⟨g, 1, none⟩ = some (.slice (some ad) n c) ∧ w2.cell? (ad.add (k * 2)) = some (.string rf))
      clear b2 hS SV
      go_wp2_with fail; refine hK.out _ _ hS1 ?_; clear hK; (try simp only [Act.put, List.setIfInBounds_toArray, List.set_cons_zero, List.set_cons_succ])
      refine TW.done ?_
      have HO2 := Lib.hid (HO.out.below T2.out)
      have HB2 := Lib.hid (HB.out.trans (T2.out.mono hzb))
      have hz2 := T2.out.size
      obtain ⟨c0, c1, c2⟩ := hS1
      cases hsh : sharesP (own, rs.map Rw.p) rf d with
      | true =>
        have HS := HST.out
        simp only [hsh, if_true] at HS
        have HS2 := Lib.hid HS
        clear HS hsh
        have HSO := Lib.hid (show SReads (w2.alloc (.cells #[.string rf] 9)) (w2.heap.size + 1) (some ⟨w2.heap.size, 0, none⟩) 1 [rf] from SReads.one 9 w2 rf)
        go_upto_region 4 with (first
          | (at_builtin; go_loud (refine wpList_appS rfl (.tmp 23) (.tmp 30) rfl w0.heap.size A' m c' _ rfl (HO2.out.alloc _) (w2.heap.size + 1) (some ⟨w2.heap.size, 0, none⟩) 1 1 [rf] rfl HSO.out (m + 1) _ rfl HS2.out.symm (by omega) (by simp; omega) ?_); intro A7 c7 w7 ho7 hg7)
          | fail)
        have HB7 := Lib.hid (sown_app (HB2.out.alloc (by omega) (.cells #[.string rf] 9)) hg7 (HO2.out.alloc _) (Nat.le_refl _) (by simp; omega))
        have HO7 := Lib.hid ho7
        clear ho7 hg7
        go_wp2_with fail
        go_roundw
        case rel => exact ⟨k + 1, m + 1, c7, A7, hlt, by go_num, rfl, HO7.out, HB7.out⟩
        case measure => simp [intOf]; omega
      | false =>
        have HS := HST.out
        simp only [hsh, Bool.false_eq_true, if_false, List.append_nil] at HS
        have HS2 := Lib.hid HS
        clear HS hsh
        go_wp2_with fail
        go_roundw
        case rel => exact ⟨k + 1, m, c', A', hlt, by go_num, rfl, by rw [HS2.out]; exact HO2.out, HB2.out⟩
        case measure => simp [intOf]; omega
    · obtain rfl : k = n := by omega
      have HE := Lib.hid (show withP (own, rs.map Rw.p) d = withR (own, rs.map Rw.p) ((rs.take k).map Rw.p) d by rw [← withR_eq, List.take_of_length_le (by rw [HLN.out]; exact Nat.le_refl _)])
      go_wp2_with fail
      go_ret
      exact ⟨A', m, c', rfl, by rw [HE.out]; exact HO.out.reads, HO.out.2, hm, hg ▸ B2.out⟩
end Go.Proofs.Ytikegnnlmfidfaa
