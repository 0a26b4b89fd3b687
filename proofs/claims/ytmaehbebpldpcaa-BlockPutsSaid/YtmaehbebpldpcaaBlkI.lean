/-
  Blocks: the chapter's examples, and what the laws share.
-/
import Derived.Test.YtmaehbebpldpcaaBlkH
import Derived.Lib.SlBytesConst
namespace Go.Proofs.Ytmaehbebpldpcaa
open Go.RowKit Go.Shelf
theorem BReads.litsm (w : World) (l : List UInt8) (cs : Array Value) (fr : Nat × Nat) (h : cs = (l.map u8v).toArray) : BReads (w.alloc (.cells cs 5 fr)) (w.heap.size + 1) (some ⟨w.heap.size, 0, none⟩) l.length l := by
  subst h
  refine ⟨by simp, fun _ => ⟨_, rfl, Nat.lt_succ_self _, fun j u hu => ?_⟩⟩
  have hp : ∀ j, (⟨w.heap.size, 0, none⟩ : Addr).add j = ⟨w.heap.size, j, none⟩ := fun j => by unfold Addr.add; split <;> simp_all
  rw [hp, World.cell?_alloc_mark]
  simpa using hu
theorem conv_const (w : World) (C : Array Value) (n c : Nat) : (convert 25 25 (.slice (some ⟨w.heap.size, 0, none⟩) n c)).run Try.prog (w.alloc (.cells C 5)) = .ok (.slice (some ⟨w.heap.size, 0, none⟩) n c) (w.alloc (.cells C 5 (C.size, C.size + 1))) :=
  Lib.run_convert_bytes_const (P := Try.prog) w 25 5 C n c Try.underlying25 Try.underlying5
set_option maxHeartbeats 1000000 in
theorem pick_any (n : Int) (m : Nat) (w : World) (h0 : 1 ≤ m) (hm : m ≤ 140737488355328) :
    Calls Try.prog 24 #[.int .i64 n, .int .i64 (m : Int)] w fun e w' => e = .returned (.int .i64 (n % (m : Int))) ∧ w = w' := by
  go_enter Try.func24, Try.ntmps24
  go_wp2
  · have hlt : n.tmod m < 0 := by assumption
    have hb := Int.tmod_lt_of_pos n (show (0 : Int) < m by omega)
    have hb2 := Int.lt_tmod_of_pos n (show (0 : Int) < m by omega)
    go_ret
    refine ⟨ret_int ?_, rfl⟩
    rw [IntWalk.wrap64_in _ ⟨by omega, by omega⟩, Int.tmod_eq_emod]
    split <;> rename_i h
    · rw [Int.tmod_eq_emod, if_pos h] at hlt
      have := Int.emod_nonneg n (show (m : Int) ≠ 0 by omega)
      omega
    · omega
  · have hge : 0 ≤ n.tmod m := by assumption
    go_ret
    refine ⟨ret_int ?_, rfl⟩
    rw [Int.tmod_eq_emod] at hge ⊢
    split <;> rename_i h
    · omega
    · rw [if_neg h] at hge
      have := Int.emod_lt_of_pos n (show (0 : Int) < m by omega)
      omega

set_option maxHeartbeats 1000000 in
/-- Cut, its answer as given. -/
theorem cut_is {A : Option Addr} {n c : Nat} {L : List UInt8} {z : Int} {w : World} (hr : BReads w w.heap.size A n L) (hn : n ≤ 1000000) (hnc : n ≤ c) (er m : Nat) (er' sz ln : Int) (ds : List Dg) (h : cutP L z = (er, sz, ln, ds)) (hm : ds.length = m) (he : (er : Int) = er') :
    Calls Try.prog 10 #[.slice A n c, .int .i64 z] w fun e w' => ∃ A' c', e = .returned (.tuple #[.agg #[.int .i64 sz, .int .i64 ln, .slice A' m c'], .int .i64 er']) ∧ DReads w' w'.heap.size A' m ds ∧ Below w.heap.size w w' := by
  subst hm he
  refine (cut_v A n c L z w hr hn hnc).mono ?_
  rw [h]
  rintro e w' ⟨A', c', rfl, ho, hb⟩
  exact ⟨A', c', rfl, DReads.of_own ho, hb⟩
theorem dg_ef : dgOf [101] ≠ dgOf [102] := by
  intro h
  have h2 : sha ([101].map UInt8.toNat) = sha ([102].map UInt8.toNat) := congrArg Subtype.val h
  revert h2
  decide +kernel
theorem fits_three (d0 d1 d2 : Dg) (L : List UInt8) : fitsP 2 5 [d0, d1, d2] 2 L = if (L.length : Int) = 1 ∧ d2 = dgOf L then 0 else 13 := by
  have h1 : chk 2 5 3 = 0 := by decide
  have h2 : atP 2 5 3 2 = (4, 5, true) := by decide
  unfold fitsP
  simp only [List.length_cons, List.length_nil, Nat.zero_add, Nat.reduceAdd, h1, h2]
  simp
set_option maxRecDepth 100000 in
set_option maxHeartbeats 8000000 in
theorem lives_v (w : World) : Calls Try.prog 8 #[] w fun e w' => e = .returned (.bool true) ∧ Below w.heap.size w w' := by
  have HI := Lib.hid (show (Try.prog.info? 24).map (·.size) = some 3 by kernel_rfl)
  have hcc := conv_const w
  go_enter Try.func8, Try.ntmps8
  go_wp2_with fail
  have B1 := Lib.hid ((Below.refl w.heap.size w).alloc (Nat.le_refl _) (.cells #[.int .u8 97, .int .u8 98, .int .u8 99, .int .u8 100, .int .u8 101] 5 (5, 6)))
  refine (cut_is (L := [97, 98, 99, 100, 101]) (Reads.more (BReads.litsm w [97, 98, 99, 100, 101] _ _ rfl) (by simp)) (by decide) (by decide) 0 3 0 2 5 [dgOf [97, 98], dgOf [99, 100], dgOf [101]] rfl rfl rfl).mono ?_
  rintro e w2 ⟨A2, c2, rfl, d2, b2⟩
  have B2 := Lib.hid (B1.out.trans (b2.mono (by simp)))
  have hz2 := B2.out.size
  have X2 := Lib.hid (heap_alloc_new w2 (.cells #[.int .i64 2, .int .i64 5, .slice A2 3 c2] 24))
  have B3 := Lib.hid (B2.out.alloc hz2 (.cells #[.int .i64 2, .int .i64 5, .slice A2 3 c2] 24))
  have D3 := Lib.hid (show DReads _ (w2.heap.size + 1) A2 3 [dgOf [97, 98], dgOf [99, 100], dgOf [101]] from Reads.more (d2.below ((Below.refl w2.heap.size w2).alloc (Nat.le_refl _) (.cells #[.int .i64 2, .int .i64 5, .slice A2 3 c2] 24))) (by omega))
  have hz3 : (w2.alloc (.cells #[.int .i64 2, .int .i64 5, .slice A2 3 c2] 24)).heap.size = w2.heap.size + 1 := by simp
  clear b2 d2 B1 B2 hcc
  go_wp2_with (first
    | (refine wpList_load_slot rfl 24 (.tmp 1) rfl ⟨w2.heap.size, 0, none⟩ rfl [.int .i64 2, .int .i64 5, .slice A2 3 c2] _ (row_cells X2.out) Try.underlying24 rfl HI.out ?_)
    | fail)
  generalize w2.alloc (.cells #[.int .i64 2, .int .i64 5, .slice A2 3 c2] 24) = w3 at *
  generalize w2.heap.size = g at *
  refine (at_v 2 5 2 A2 3 c2 w3 (by decide)).mono ?_
  rw [show atP 2 5 3 2 = (4, 5, true) by decide]
  rintro e w4 ⟨rfl, b4⟩
  have X4 := Lib.hid ((b4.block g (by omega)).trans X2.out)
  have B4 := Lib.hid (B3.out.trans (b4.mono B3.out.size))
  have D4 := Lib.hid (D3.out.below (b4.mono (by omega)))
  have hz4 : g + 1 ≤ w4.heap.size := by have := b4.size; omega
  have s1 : w4.cell? ⟨g, 1, none⟩ = some (.int .i64 5) := by rw [cell_of_row _ _ 1 _ _ _ X4.out]; rfl
  have s2 : w4.cell? ⟨g, 2, none⟩ = some (.slice A2 3 c2) := by rw [cell_of_row _ _ 2 _ _ _ X4.out]; rfl
  clear X2 B3 D3 b4 hz3 hz2
  have hcc := conv_const w4
  have X4a := Lib.hid ((Below.heap_alloc w4 (.cells #[.int .u8 101] 5) g (by omega)).trans X4.out)
  go_wp2_with (first
    | (refine wpList_load_slot rfl 24 (.tmp 1) rfl ⟨g, 0, none⟩ rfl [.int .i64 2, .int .i64 5, .slice A2 3 c2] _ (row_cells X4.out) Try.underlying24 rfl HI.out ?_)
    | fail)
  have BA := Lib.hid ((Below.refl w4.heap.size w4).alloc (Nat.le_refl _) (.cells #[.int .u8 101] 5 (1, 2)))
  have hza : (w4.alloc (.cells #[.int .u8 101] 5 (1, 2))).heap.size = w4.heap.size + 1 := by simp
  refine (fits_v 2 5 2 A2 (some ⟨w4.heap.size, 0, none⟩) 3 c2 1 1 (w4.heap.size + 1) [dgOf [97, 98], dgOf [99, 100], dgOf [101]] [101] _ (Reads.more (D4.out.below (BA.out.mono (by omega))) (by omega)) (BReads.litsm w4 [101] _ _ rfl) (by omega) (by decide) (by decide)).mono ?_
  rw [fits_three, if_pos ⟨rfl, rfl⟩]
  rintro e w5 ⟨rfl, b5⟩
  have B5 := Lib.hid (B4.out.trans ((BA.out.trans (b5.mono (by omega))).mono B4.out.size))
  have X5 := Lib.hid ((b5.block g (by omega)).trans ((BA.out.block g (by omega)).trans X4.out))
  have D5 := Lib.hid (D4.out.below ((BA.out.trans (b5.mono (by omega))).mono (by omega)))
  have hz5 : g + 1 ≤ w5.heap.size := by have := b5.size; omega
  clear BA hza b5 hcc X4 X4a D4 B4
  have hcc := conv_const w5
  have X5a := Lib.hid ((Below.heap_alloc w5 (.cells #[.int .u8 102] 5) g (by omega)).trans X5.out)
  go_wp2_with (first
    | (refine wpList_load_slot rfl 24 (.tmp 1) rfl ⟨g, 0, none⟩ rfl [.int .i64 2, .int .i64 5, .slice A2 3 c2] _ (row_cells X5.out) Try.underlying24 rfl HI.out ?_)
    | fail)
  have BA := Lib.hid ((Below.refl w5.heap.size w5).alloc (Nat.le_refl _) (.cells #[.int .u8 102] 5 (1, 2)))
  have hza : (w5.alloc (.cells #[.int .u8 102] 5 (1, 2))).heap.size = w5.heap.size + 1 := by simp
  refine (fits_v 2 5 2 A2 (some ⟨w5.heap.size, 0, none⟩) 3 c2 1 1 (w5.heap.size + 1) [dgOf [97, 98], dgOf [99, 100], dgOf [101]] [102] _ (Reads.more (D5.out.below (BA.out.mono (by omega))) (by omega)) (BReads.litsm w5 [102] _ _ rfl) (by omega) (by decide) (by decide)).mono ?_
  rw [fits_three, if_neg (fun h => dg_ef h.2)]
  rintro e w6 ⟨rfl, b6⟩
  have B6 := Lib.hid (B5.out.trans ((BA.out.trans (b6.mono (by omega))).mono B5.out.size))
  have X6 := Lib.hid ((b6.block g (by omega)).trans ((BA.out.block g (by omega)).trans X5.out))
  have D6 := Lib.hid (D5.out.below ((BA.out.trans (b6.mono (by omega))).mono (by omega)))
  have hz6 : g + 1 ≤ w6.heap.size := by have := b6.size; omega
  clear BA hza b6 hcc X5 X5a D5 B5
  have hcc := conv_const w6
  have X6a := Lib.hid ((Below.heap_alloc w6 (.cells #[.int .u8 101, .int .u8 102] 5) g (by omega)).trans X6.out)
  go_wp2_with (first
    | (refine wpList_load_slot rfl 24 (.tmp 1) rfl ⟨g, 0, none⟩ rfl [.int .i64 2, .int .i64 5, .slice A2 3 c2] _ (row_cells X6.out) Try.underlying24 rfl HI.out ?_)
    | fail)
  have BA := Lib.hid ((Below.refl w6.heap.size w6).alloc (Nat.le_refl _) (.cells #[.int .u8 101, .int .u8 102] 5 (2, 3)))
  have hza : (w6.alloc (.cells #[.int .u8 101, .int .u8 102] 5 (2, 3))).heap.size = w6.heap.size + 1 := by simp
  refine (fits_v 2 5 2 A2 (some ⟨w6.heap.size, 0, none⟩) 3 c2 2 2 (w6.heap.size + 1) [dgOf [97, 98], dgOf [99, 100], dgOf [101]] [101, 102] _ (Reads.more (D6.out.below (BA.out.mono (by omega))) (by omega)) (BReads.litsm w6 [101, 102] _ _ rfl) (by omega) (by decide) (by decide)).mono ?_
  rw [fits_three, if_neg (fun h => by have h1 := h.1; simp at h1)]
  rintro e w7 ⟨rfl, b7⟩
  have B7 := Lib.hid (B6.out.trans ((BA.out.trans (b7.mono (by omega))).mono B6.out.size))
  have X7 := Lib.hid ((b7.block g (by omega)).trans ((BA.out.block g (by omega)).trans X6.out))
  have D7 := Lib.hid (D6.out.below ((BA.out.trans (b7.mono (by omega))).mono (by omega)))
  have hz7 : g + 1 ≤ w7.heap.size := by have := b7.size; omega
  clear BA hza b7 hcc X6 X6a D6 B6
  go_wp2_with fail
  go_ret
  exact ⟨rfl, B7.out⟩
/-- A list of blocks. -/
structure LV where
  sz : Int
  ln : Int
  a : Option Addr
  n : Nat
  c : Nat
def LV.cells (v : LV) : List Value := [.int .i64 v.sz, .int .i64 v.ln, .slice v.a v.n v.c]
theorem LV.cells_len (v : LV) : v.cells.length = 3 := rfl
def lightP (ls : List LV) : Bool := decide (∀ x ∈ ls, x.n ≤ 1100) && decide (ls.length ≤ 20)
set_option maxRecDepth 100000 in
set_option maxHeartbeats 4000000 in
theorem light_v (A : Option Addr) (m c B : Nat) (ls : List LV) (w : World) (h : Reads w B 3 A m (ls.flatMap LV.cells)) (hm : m ≤ 9223372036854775807) (hc : ∀ x ∈ ls, x.n ≤ 9223372036854775807) :
    Calls Try.prog 9 #[.slice A m c] w fun e w' => e = .returned (.bool (lightP ls)) ∧ w = w' := by
  have HR := Lib.hid h
  have HL := Lib.hid (show ls.length = m by have h1 := h.1; rw [flat_len LV.cells_len] at h1; omega)
  have HC := Lib.hid hc
  clear h hc
  go_enter Try.func9, Try.ntmps9
  go_wp2_with fail
  go_loopw [3] (fun i wr => ∃ k : Nat, k ≤ m ∧ i = .int .i64 (k : Int) ∧ (∀ x ∈ ls.take k, x.n ≤ 1100) ∧ w = wr) (fun i _ => m - (intOf i).toNat)
  case atStart => exact ⟨0, Nat.zero_le _, rfl, by simp, rfl⟩
  case round =>
    obtain ⟨k, hk, rfl, ht, rfl⟩ := hrel
    have HT := Lib.hid ht
    clear ht
    by_cases hlt : k < m
    · obtain ⟨ad, rfl, hb, hcell⟩ := HR.out.2 (by omega)
      have hkl : k < ls.length := by rw [HL.out]; exact hlt
      obtain ⟨x, hx⟩ : ∃ x, ls[k]? = some x := ⟨_, List.getElem?_eq_getElem hkl⟩
      have c2 : w.cell? ⟨(ad.add (k * 3)).block, (ad.add (k * 3)).off + 2, none⟩ = some (.slice x.a x.n x.c) := by
        have h1 := hcell (k * 3 + 2) (.slice x.a x.n x.c) (by rw [flat_at LV.cells_len ls hx (by omega)]; rfl)
        rw [← add_of_add] at h1
        exact h1
      have k0 : (0 : Int) ≤ (k : Int) := by omega
      have hxm := HC.out x (List.mem_of_getElem? hx)
      have HX := Lib.hid hx
      clear hcell hx
      by_cases hn : 1100 < x.n
      · have d1 : decide (1100 < x.n) = true := by simpa using hn
        have HF := Lib.hid (show lightP ls = false by
          unfold lightP
          rw [decide_eq_false (fun h => by have := h x (List.mem_of_getElem? HX.out); omega)]
          rfl)
        go_wp2
        go_ret
        exact ⟨by rw [HF.out]; rfl, rfl⟩
      · have d1 : decide (1100 < x.n) = false := by simpa using hn
        have HN := Lib.hid (show ∀ y ∈ ls.take (k + 1), y.n ≤ 1100 by
          intro y hy
          rw [List.take_add_one, HX.out] at hy
          rcases List.mem_append.1 hy with hy | hy
          · exact HT.out y hy
          · obtain rfl : y = x := by simpa using hy
            omega)
        go_wp2
        go_roundw
        case rel => exact ⟨k + 1, hlt, by go_num, HN.out, by trivial⟩
        case measure => simp [intOf]; omega
    · obtain rfl : k = m := by omega
      have HF := Lib.hid (show lightP ls = decide (k ≤ 20) by
        unfold lightP
        have h1 := HT.out
        rw [List.take_of_length_le (by rw [HL.out]; exact Nat.le_refl _)] at h1
        rw [decide_eq_true h1, HL.out]
        rfl)
      go_wp2
      go_ret
      exact ⟨by rw [HF.out]; (congr 2; simp; omega), rfl⟩
end Go.Proofs.Ytmaehbebpldpcaa
