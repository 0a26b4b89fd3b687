/-
  Matrices: the folders shared with a device.
-/
import Derived.Test.YtikegnnlmfidfaaMatK
namespace Go.Proofs.Ytikegnnlmfidfaa
open Go.RowKit
theorem sown_app {w w' : World} {base n c : Nat} {A : Option Addr} {xs : List ByteArray} {a : World} {B : Nat} (h : Below B a w) (hg : w.grownBy w' (Value.slice A n c).ownBlock) (ho : SOwn w base A n c xs) (hB : B ≤ base) (hs : B ≤ w.heap.size) : Below B a w' :=
  h.grown hg hs fun g hg2 => Nat.le_trans hB (ho.lt g hg2).1
theorem take_filter {α : Type} {p : α → Bool} {l : List α} {k : Nat} {x : α} (hx : l[k]? = some x) : (l.take (k + 1)).filter p = (l.take k).filter p ++ if p x then [x] else [] := by
  rw [List.take_add_one, hx, List.filter_append]
  cases h : p x <;> simp [h]
theorem withF_step {rs : List Rw} {k : Nat} {r : Rw} {d : Int} (hx : rs[k]? = some r) : ((((rs.take (k + 1)).map Rw.p).filter fun r => decide (d ∈ r.2)).map (·.1)) = ((((rs.take k).map Rw.p).filter fun r => decide (d ∈ r.2)).map (·.1)) ++ if d ∈ r.ds then [r.f] else [] := by
  rw [List.take_add_one, hx, List.map_append, List.filter_append, List.map_append]
  by_cases h : d ∈ r.ds <;> simp [h, Rw.p]
theorem withF_len {rs : List Rw} {k : Nat} {d : Int} : ((((rs.take k).map Rw.p).filter fun r => decide (d ∈ r.2)).map (·.1)).length ≤ k := by
  rw [List.length_map]
  refine Nat.le_trans (List.length_filter_le _ _) ?_
  rw [List.length_map, List.length_take]
  omega
set_option maxRecDepth 100000 in
set_option maxHeartbeats 8000000 in
theorem with_v (own : Int) (A : Option Addr) (n c B : Nat) (rs : List Rw) (d : Int) (w : World) (hr : RowsR w B A n rs) (hB : B ≤ w.heap.size) (hn : n ≤ 9223372036854775807) :
    Calls Try.prog 23 #[.agg #[.int .i64 own, .slice A n c], .int .i64 d] w fun e w' => ∃ A' n' c', e = .returned (.slice A' n' c') ∧ SReads w' w'.heap.size A' n' (withP (own, rs.map Rw.p) d) ∧ n' ≤ c' ∧ n' ≤ 8 ∧ Below w.heap.size w w' := by
  have HI := Lib.hid (show (Try.prog.info? 56).map (·.size) = some 2 by kernel_rfl)
  have HR := Lib.hid hr
  have HLN := Lib.hid hr.len
  have B0 := Lib.hid ((Below.refl w.heap.size w).alloc (Nat.le_refl _) (.cells #[.int .i64 own, .slice A n c] 27))
  have X0 := Lib.hid (heap_alloc_new w (.cells #[.int .i64 own, .slice A n c] 27))
  have hz0 : (w.alloc (.cells #[.int .i64 own, .slice A n c] 27)).heap.size = w.heap.size + 1 := by simp
  clear hr
  go_enter Try.func23, Try.ntmps23
  go_upto_region 1 with fail
  generalize w.alloc (.cells #[.int .i64 own, .slice A n c] 27) = w0 at *
  generalize hg : w.heap.size = g at *
  have c00 : w0.cell? ⟨g, 0, none⟩ = some (.int .i64 own) := by rw [cell_of_row _ _ 0 _ _ _ X0.out]; rfl
  have c01 : w0.cell? ⟨g, 1, none⟩ = some (.slice A n c) := by rw [cell_of_row _ _ 1 _ _ _ X0.out]; rfl
  go_wp2_with fail
  have CV := check_v own A n c B rs w0 (HR.out.below (B0.out.mono hB)) (by omega) hn
  obtain ⟨ck, hck⟩ : ∃ ck, chkM (own, rs.map Rw.p) = ck := ⟨_, rfl⟩
  have HCK := Lib.hid hck
  rw [hck] at CV
  clear hck
  refine CV.mono ?_
  rintro e w1 ⟨rfl, b1⟩
  have B1 := Lib.hid (B0.out.trans (b1.mono (by omega)))
  have X1 := Lib.hid ((b1.block g (by omega)).trans X0.out)
  have hz1 := b1.size
  clear b1 CV c00 c01
  by_cases h0 : ck = 0
  case neg =>
    have d1 : ((ck : Int) != 0) = true := bne_iff_ne.2 (by omega)
    have HE := Lib.hid (show withP (own, rs.map Rw.p) d = [] by unfold withP; rw [HCK.out, if_neg h0])
    clear h0
    go_wp2_with fail
    go_ret
    exact ⟨none, 0, 0, rfl, by rw [HE.out]; exact Reads.none_, Nat.le_refl _, by omega, hg ▸ B1.out⟩
  subst h0
  have hn8 : n ≤ 8 := by have := (chk_ok HCK.out).1; rw [List.length_map, HLN.out] at this; exact this
  have HE := Lib.hid (show withP (own, rs.map Rw.p) d = (((rs.take n).map Rw.p).filter fun r => decide (d ∈ r.2)).map (·.1) by unfold withP; rw [HCK.out, if_pos rfl, List.take_of_length_le (by rw [HLN.out]; exact Nat.le_refl _)])
  have c11 : w1.cell? ⟨g, 1, none⟩ = some (.slice A n c) := by rw [cell_of_row _ _ 1 _ _ _ X1.out]; rfl
  go_wp2_with fail
  go_loopw [5, 14] (fun o i wr => ∃ (k m c' : Nat) (A' : Option Addr), k ≤ n ∧ i = .int .i64 (k : Int) ∧ o = .slice A' m c' ∧ SOwn wr w1.heap.size A' m c' ((((rs.take k).map Rw.p).filter fun r => decide (d ∈ r.2)).map (·.1)) ∧ Below w1.heap.size w1 wr) (fun _ i _ => n - (intOf i).toNat)
  case atStart => exact ⟨0, 0, 0, none, Nat.zero_le _, rfl, rfl, by simpa using SOwn.nil_ w1 _, Below.refl _ _⟩
  case round =>
    obtain ⟨k, m, c', A', hk, rfl, rfl, ho, hb⟩ := hrel
    have HO := Lib.hid ho
    have HB := Lib.hid hb
    have hzb := hb.size
    have B2 := Lib.hid (B1.out.trans (hb.mono (by omega)))
    have hm : m ≤ k := by
      have h1 := ho.reads.len
      have h2 := withF_len (rs := rs) (k := k) (d := d)
      omega
    clear ho hb
    by_cases hlt : k < n
    · obtain ⟨ad, rf, ra, rn, rc, ds, rfl, hx, ⟨hri, hrn, hrc, hfs⟩, hcs, hc2⟩ := HR.out.at_ hlt
      have HX := Lib.hid hx
      have HRI := Lib.hid hri
      have HCS := Lib.hid (hcs wr (B2.out.mono hB))
      have HST := Lib.hid (withF_step (d := d) hx)
      have k0 : (0 : Int) ≤ (k : Int) := by omega
      clear hx hri hcs hc2
      go_upto_region 7 with (first
        | (refine wpList_load_slot rfl 56 (.tmp 16) rfl (ad.add (k * 2)) rfl [.string rf, .slice ra rn rc] _ HCS.out Try.underlying56 rfl HI.out ?_)
        | fail)
      have BR := (Below.refl wr.heap.size wr).alloc (Nat.le_refl _) (.cells #[.string rf, .slice ra rn rc] 56)
      have X2 := Lib.hid (heap_alloc_new wr (.cells #[.string rf, .slice ra rn rc] 56))
      have HB2 := Lib.hid (HB.out.trans (BR.mono hzb))
      have HO2 := Lib.hid (HO.out.alloc (.cells #[.string rf, .slice ra rn rc] 56))
      have hz2 : (wr.alloc (.cells #[.string rf, .slice ra rn rc] 56)).heap.size = wr.heap.size + 1 := by simp
      have hlt5 : wr.heap.size < (wr.alloc (.cells #[.string rf, .slice ra rn rc] 56)).heap.size := by omega
      clear BR HCS HO HB
      generalize wr.alloc (.cells #[.string rf, .slice ra rn rc] 56) = w2 at *
      generalize wr.heap.size = g5 at *
      have B3 := Lib.hid (B1.out.trans (HB2.out.mono (by omega)))
      have HRI2 := Lib.hid (show IReads w2 B ra rn ds from Reads.below HRI.out (B3.out.mono hB))
      have c50 : w2.cell? ⟨g5, 0, none⟩ = some (.string rf) := by rw [cell_of_row _ _ 0 _ _ _ X2.out]; rfl
      have c51 : w2.cell? ⟨g5, 1, none⟩ = some (.slice ra rn rc) := by rw [cell_of_row _ _ 1 _ _ _ X2.out]; rfl
      go_wp2_with fail
      refine (contains_v ra rn rc B ds d w2 HRI2.out (by omega)).mono ?_
      rintro e _ ⟨rfl, rfl⟩
      by_cases hd : d ∈ ds
      · have d1 : decide (d ∈ ds) = true := decide_eq_true hd
        have HS := HST.out
        simp only [hd, if_true] at HS
        have HS2 := Lib.hid HS
        clear HS hd
        rw [d1]
        have HSO := Lib.hid (show SReads (w2.alloc (.cells #[.string rf] 9)) (g5 + 2) (some ⟨g5 + 1, 0, none⟩) 1 [rf] by have h1 := SReads.one 9 w2 rf; rw [hz2] at h1; exact h1)
        go_upto_region 9 with (first
          | (at_builtin; go_loud (refine wpList_appS rfl (.tmp 22) (.tmp 25) rfl w1.heap.size A' m c' _ rfl (HO2.out.alloc _) (g5 + 2) (some ⟨g5 + 1, 0, none⟩) 1 1 [rf] rfl HSO.out (m + 1) _ rfl HS2.out.symm (by omega) (by simp; omega) ?_); intro A7 c7 w7 ho7 hg7)
          | fail)
        have HB7 := Lib.hid (sown_app (HB2.out.alloc (by omega) (.cells #[.string rf] 9)) hg7 (HO2.out.alloc _) (Nat.le_refl _) (by simp; omega))
        have HO7 := Lib.hid ho7
        clear ho7 hg7
        go_wp2_with fail
        go_roundw
        case rel => exact ⟨k + 1, m + 1, c7, A7, hlt, by go_num, rfl, HO7.out, HB7.out⟩
        case measure => simp [intOf]; omega
      · have d1 : decide (d ∈ ds) = false := decide_eq_false hd
        have HS := HST.out
        simp only [hd, if_false, List.append_nil] at HS
        have HS2 := Lib.hid HS
        clear HS hd
        rw [d1]
        go_wp2_with fail
        go_roundw
        case rel => exact ⟨k + 1, m, c', A', hlt, by go_num, rfl, by rw [HS2.out]; exact HO2.out, HB2.out⟩
        case measure => simp [intOf]; omega
    · obtain rfl : k = n := by omega
      go_wp2_with fail
      go_ret
      exact ⟨A', m, c', rfl, by rw [HE.out]; exact HO.out.reads, HO.out.2, by omega, hg ▸ B2.out⟩
end Go.Proofs.Ytikegnnlmfidfaa
