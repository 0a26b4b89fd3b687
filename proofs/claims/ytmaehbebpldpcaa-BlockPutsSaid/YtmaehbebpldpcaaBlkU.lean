/-
  Blocks: the reference's Plan.
-/
import Derived.Test.YtmaehbebpldpcaaBlkS
namespace Go.Proofs.Ytmaehbebpldpcaa
open Go.RowKit Go.Shelf
theorem wpList_append_src {ops : Array Oper} {rest : List Oper} {o : Oper} {a : Act} {w : World} {Q : Exit → Act → World → Prop} (hgd : o.guard = none) (s x : Operand)
    (ho : o.op = .call { callee := .builtin .append, args := #[s, x], argTypes := #[42, 42] })
    (base : Nat) (A : Option Addr) (n c : Nat) (xs : List (Int × Int)) (hs : a.eval s = .slice A n c) (hown : w.ownsRow base 47 2 (.slice A n c) n (xs.flatMap srcC))
    (B : Nat) (D : Option Addr) (p : Int × Int) (hx : a.eval x = .slice D 1 1) (hr : Reads w B 2 D 1 (srcC p)) (hn : n ≤ 1000000) (hbase : base ≤ w.heap.size)
    (h : ∀ A' c' w', w'.ownsRow base 47 2 (.slice A' (n + 1) c') (n + 1) ((xs ++ [p]).flatMap srcC) → w.grownBy w' (Value.slice A n c).ownBlock → wpList Try.prog ops Q rest (a.put o.dst (.slice A' (n + 1) c')) w') : wpList Try.prog ops Q (o :: rest) a w := by
  obtain ⟨i1, hi1, hx0, hx1, hx2⟩ := info_parts info_src
  refine wpList_append_any w hgd s x 42 ho base 47 i1 _ 2 16 Try.underlying42 hi1 hx0 hx1 hx2 rfl (by decide) (.slice A n c) n (xs.flatMap srcC) hs hown B D 1 1 (srcC p) hx hr (by intro u hu; simp only [srcC, List.mem_cons, List.not_mem_nil, or_false] at hu; rcases hu with rfl | rfl <;> rfl) (by simp only [maxLen]; omega) (by omega) hbase ?_
  intro v' w' ho' hg' _
  obtain ⟨A', c', rfl, _⟩ := own_shape ho'
  refine h A' c' w' ?_ hg'
  rw [List.flatMap_append]
  have e : ([p] : List (Int × Int)).flatMap srcC = srcC p := by simp
  rw [e]
  exact ho'
theorem srcP_all (l : LX) (hv : List LX) : srcP l hv = (List.range l.v.n).map fun k => (lk (gD l.ds k, lenP l k) (entsA hv hv.length)).getD (-1, 0) := rfl
set_option maxRecDepth 100000 in
set_option maxHeartbeats 16000000 in
theorem rplan_v (sl ll : Int) (al : Option Addr) (nl cl : Nat) (dl : List Dg) (hv : List LX) (A : Option Addr) (m c B : Nat) (w : World)
    (hl : DReads w B al nl dl) (hB : B ≤ w.heap.size) (hnl : nl ≤ 1100) (hr : Reads w B 3 A m (hv.flatMap LX.cells)) (hm : m ≤ 1000)
    (hh : ∀ x ∈ hv, DReads w B x.v.a x.v.n x.ds ∧ x.v.n ≤ 1100) :
    Calls Try.prog 28 #[.agg #[.int .i64 sl, .int .i64 ll, .slice al nl cl], .slice A m c] w fun e w' => ∃ A' n' c', e = .returned (.tuple #[.slice A' n' c', .int .i64 (errP (⟨⟨sl, ll, al, nl, cl⟩, dl⟩ :: hv) : Int)]) ∧
      w'.ownsRow w.heap.size 47 2 (.slice A' n' c') n' ((planP ⟨⟨sl, ll, al, nl, cl⟩, dl⟩ hv).flatMap srcC) ∧ Below w.heap.size w w' := by
  have HI := Lib.hid (show (Try.prog.info? 24).map (·.size) = some 3 by kernel_rfl)
  have HID := Lib.hid (show (Try.prog.info? 59).map (·.size) = some 32 by kernel_rfl)
  obtain ⟨l, hll⟩ : ∃ l : LX, (⟨⟨sl, ll, al, nl, cl⟩, dl⟩ : LX) = l := ⟨_, rfl⟩
  have HLL := Lib.hid hll
  have HLC := Lib.hid (show Proofs.Ytmaehbebpldpcaa.chk sl ll nl = l.chk by rw [← hll]; rfl)
  rw [hll]
  clear hll
  have HL := Lib.hid hl
  have HR := Lib.hid hr
  have HH := Lib.hid hh
  have HLN := Lib.hid (show hv.length = m by have h1 := hr.1; rw [flat_len LX.cells_len] at h1; omega)
  clear hl hr hh
  have B0 := Lib.hid ((Below.refl w.heap.size w).alloc (Nat.le_refl _) (.cells #[.int .i64 sl, .int .i64 ll, .slice al nl cl] 24))
  have X0 := Lib.hid (heap_alloc_new w (.cells #[.int .i64 sl, .int .i64 ll, .slice al nl cl] 24))
  have hz0 : (w.alloc (.cells #[.int .i64 sl, .int .i64 ll, .slice al nl cl] 24)).heap.size = w.heap.size + 1 := by simp
  have hn1 : nl ≤ 9007199254740992 := by omega
  go_enter Try.func28, Try.ntmps28
  go_wp2_with (first
    | (refine wpList_load_row rfl 24 (.tmp 2) rfl w.heap.size rfl 24 _ (0, 0) _ X0.out Try.underlying24 rfl HI.out ?_)
    | fail)
  generalize w.alloc (.cells #[.int .i64 sl, .int .i64 ll, .slice al nl cl] 24) = w0 at *
  refine (rcheck_v sl ll al nl cl w0 hn1).mono ?_
  rw [HLC.out]
  rintro e w1 ⟨rfl, b1⟩
  have X1 := Lib.hid ((b1.block w.heap.size (by omega)).trans X0.out)
  have B1 := Lib.hid (B0.out.trans (b1.mono (by omega)))
  have hz1 : w.heap.size + 1 ≤ w1.heap.size := by have := b1.size; omega
  clear b1 X0 B0
  go_wp2_with fail
  go_loopw [6, 7] (fun e i wr => ∃ (k q : Nat), k ≤ m ∧ i = .int .i64 (k : Int) ∧ e = .int .i64 (q : Int) ∧ ((q = 0 ∧ ∀ x ∈ (l :: hv).take (k + 1), x.chk = 0) ∨ (q ≠ 0 ∧ errP (l :: hv) = q)) ∧ Below w1.heap.size w1 wr) (fun _ i _ => m - (intOf i).toNat)
  case atStart =>
    refine ⟨0, l.chk, Nat.zero_le _, rfl, rfl, ?_, Below.refl _ _⟩
    by_cases h0 : l.chk = 0
    · exact .inl ⟨h0, fun x hx => by obtain rfl : x = l := by simpa using hx
                                     exact h0⟩
    · exact .inr ⟨h0, errP_at (k := 0) (by simp) rfl h0⟩
  case round =>
    obtain ⟨k, q, hk, rfl, rfl, hq, hb⟩ := hrel
    have HQ := Lib.hid hq
    have HB := Lib.hid hb
    have hzb := hb.size
    clear hq hb
    by_cases hq0 : q = 0
    · subst hq0
      rw [show ((0 : Nat) : Int) = (0 : Int) from rfl]
      have HZ := Lib.hid (HQ.out.resolve_right (fun h => h.1 rfl)).2
      clear HQ
      by_cases hlt : k < m
      · obtain ⟨ad, rfl, hbl, hcell⟩ := HR.out.2 (by omega)
        obtain ⟨x, hx⟩ : ∃ x, hv[k]? = some x := ⟨_, List.getElem?_eq_getElem (by rw [HLN.out]; exact hlt)⟩
        have HX := Lib.hid hx
        have hxn := (HH.out x (List.mem_of_getElem? hx)).2
        have HC := Lib.hid (show ∀ j v, x.cells[j]? = some v → wr.cell? ((ad.add (k * 3)).add j) = some v from fun j v hv' => by
          have hj : j < 3 := by have := (List.getElem?_eq_some_iff.1 hv').1; rwa [LX.cells_len] at this
          have h1 := hcell (k * 3 + j) v (by rw [flat_at LX.cells_len hv hx hj]; exact hv')
          rw [add_of_add]
          refine (((B1.out.trans (HB.out.mono (by omega))).mono hB).cell ?_).trans h1
          rw [block_of_add]
          exact hbl)
        have k0 : (0 : Int) ≤ (k : Int) := by omega
        clear hx hcell
        go_wp2_with (first
          | (refine wpList_load_slot rfl 24 (.tmp 27) rfl (ad.add (k * 3)) rfl [.int .i64 x.v.sz, .int .i64 x.v.ln, .slice x.v.a x.v.n x.v.c] _ HC.out Try.underlying24 rfl HI.out ?_)
          | fail)
        refine (rcheck_v x.v.sz x.v.ln x.v.a x.v.n x.v.c wr (by omega)).mono ?_
        rintro e w2 ⟨rfl, b2⟩
        have HB2 := Lib.hid (HB.out.trans (b2.mono hzb))
        have e9 : (Proofs.Ytmaehbebpldpcaa.chk x.v.sz x.v.ln x.v.n : Int) = (x.chk : Int) := rfl
        rw [e9]
        have HS := Lib.hid (show (x.chk = 0 ∧ ∀ y ∈ (l :: hv).take (k + 1 + 1), y.chk = 0) ∨ (x.chk ≠ 0 ∧ errP (l :: hv) = x.chk) by
          have hx2 : (l :: hv)[k + 1]? = some x := HX.out
          by_cases h0 : x.chk = 0
          · refine .inl ⟨h0, fun y hy => ?_⟩
            rw [List.take_add_one, hx2] at hy
            rcases List.mem_append.1 hy with hy | hy
            · exact HZ.out y hy
            · obtain rfl : y = x := by simpa using hy
              exact h0
          · exact .inr ⟨h0, errP_at HZ.out hx2 h0⟩)
        clear b2 e9 HC
        go_wp2_with fail
        go_roundw
        case rel => exact ⟨k + 1, x.chk, hlt, by go_num, rfl, HS.out, HB2.out⟩
        case measure => simp [intOf]; omega
      · obtain rfl : k = m := by omega
        have HCK := Lib.hid (show ∀ x ∈ l :: hv, x.chk = 0 by have h := HZ.out; rwa [List.take_of_length_le (by rw [List.length_cons, HLN.out]; exact Nat.le_refl _)] at h)
        have HE := Lib.hid (show errP (l :: hv) = 0 from errP_zero HCK.out)
        have HPL := Lib.hid (show planP l hv = srcP l hv by unfold planP; rw [if_pos HE.out])
        have HB1 := Lib.hid (B1.out.trans (HB.out.mono (by omega)))
        have X2 := Lib.hid ((HB.out.block w.heap.size (by omega)).trans X1.out)
        have hza : w.heap.size + 1 ≤ wr.heap.size := by omega
        have HS := Lib.hid (show srcP l hv = (List.range nl).map fun k2 => (lk (gD dl k2, lenP l k2) (entsA hv k)).getD (-1, 0) by
          rw [srcP_all, HLN.out, ← HLL.out])
        have HCL := Lib.hid (show Proofs.Ytmaehbebpldpcaa.chk sl ll nl = 0 by rw [HLC.out]; exact HCK.out l List.mem_cons_self)
        have HLD := Lib.hid HL.out.len
        obtain ⟨q1, q2, q3, q4, q5, q6⟩ := chk_ok HCL.out
        have hcks := fun x hx => HCK.out x (List.mem_cons_of_mem l hx)
        have HCS := Lib.hid hcks
        clear HZ HB X1 B1 hzb q3 q6 hcks
        generalize wr = wa at *
        have c2 : wa.cell? ⟨w.heap.size, 2, none⟩ = some (.slice al nl cl) := by rw [cell_of_row _ _ 2 _ _ _ X2.out]; rfl
        go_wp2_with fail
        go_loopw [8, 9] (fun o i wr => ∃ (k2 : Nat) (A' : Option Addr) (c' : Nat), k2 ≤ nl ∧ i = .int .i64 (k2 : Int) ∧ o = .slice A' k2 c' ∧ wr.ownsRow wa.heap.size 47 2 (.slice A' k2 c') k2 (((srcP l hv).take k2).flatMap srcC) ∧ Below wa.heap.size wa wr) (fun _ i _ => nl - (intOf i).toNat)
        case atStart => exact ⟨0, none, 0, Nat.zero_le _, rfl, rfl, World.ownsRow_nil _ _ _ 2, Below.refl _ _⟩
        case round =>
          obtain ⟨k2, A', c', hk2, rfl, rfl, ho, hb⟩ := hrel
          have HO := Lib.hid ho
          have HB := Lib.hid hb
          have hzb := hb.size
          have X3 := Lib.hid ((hb.block w.heap.size (by omega)).trans X2.out)
          have B3 := Lib.hid (HB1.out.trans (hb.mono (by omega)))
          have c2 : wr.cell? ⟨w.heap.size, 2, none⟩ = some (.slice al nl cl) := by rw [cell_of_row _ _ 2 _ _ _ X3.out]; rfl
          clear ho hb
          by_cases hlt : k2 < nl
          · have KL := chk_last HCL.out (k := (k2 : Int)) (by omega) (by omega)
            have TL := toP_lo (k := (k2 : Int)) q1 (by omega) KL.1
            have TH : toP sl ll (k2 : Int) ≤ ll := by unfold toP; omega
            have AP := Lib.hid (show atP sl ll nl (k2 : Int) = ((k2 : Int) * sl, toP sl ll (k2 : Int), true) by
              unfold atP
              rw [if_pos ⟨HCL.out, by omega, by omega⟩])
            have HLP := Lib.hid (show lenP l k2 = toP sl ll (k2 : Int) - (k2 : Int) * sl by rw [← HLL.out]; rfl)
            obtain ⟨dd, y, rfl, hy, hc⟩ := HL.out.at_ hlt
            have HYG := Lib.hid (show gD dl k2 = y by
              have h := gD_some (ls := dl) (k := k2) (by rw [HLD.out]; exact hlt)
              rw [hy] at h
              exact (Option.some.inj h).symm)
            have HDC := Lib.hid (fun V (hV : Below w.heap.size w V) => hc V (hV.mono hB))
            have k1 : (0 : Int) ≤ (k2 : Int) := by omega
            clear hy hc
            go_wp2_with (first
              | (refine wpList_load_row rfl 24 (.tmp 2) rfl w.heap.size rfl 24 _ (0, 0) _ X3.out Try.underlying24 rfl HI.out ?_)
              | fail)
            refine (rat_v sl ll (k2 : Int) (some dd) nl cl wr hn1).mono ?_
            rw [AP.out]
            rintro e w2 ⟨rfl, b2⟩
            have B4 := Lib.hid (B3.out.trans (b2.mono (by omega)))
            have HB4 := Lib.hid (HB.out.trans (b2.mono hzb))
            have HO4 := Lib.hid (own_keep' HO.out (fun j hj => b2.block j (HO.out.lt j hj).2))
            have X4 := Lib.hid ((b2.block w.heap.size (by omega)).trans X3.out)
            have c4 : w2.cell? ⟨w.heap.size, 2, none⟩ = some (.slice (some dd) nl cl) := by rw [cell_of_row _ _ 2 _ _ _ X4.out]; rfl
            have HD4 := Lib.hid (HDC.out w2 B4.out)
            have hz2 := b2.size
            obtain ⟨fr, hfr⟩ : ∃ fr, (k2 : Int) * sl = fr := ⟨_, rfl⟩
            obtain ⟨tt, htt⟩ : ∃ tt, toP sl ll (k2 : Int) = tt := ⟨_, rfl⟩
            rw [hfr, htt] at HLP TL
            rw [hfr] at KL
            rw [htt] at TH
            rw [hfr, htt]
            have hw : IntKind.i64.wrap (tt - fr) = tt - fr := IntWalk.i64_in _ ⟨by omega, by omega⟩
            obtain ⟨p, hp⟩ : ∃ p, (lk (y, tt - fr) (entsA hv k)).getD (-1, 0) = p := ⟨_, rfl⟩
            have HSK := Lib.hid (show (srcP l hv).take (k2 + 1) = (srcP l hv).take k2 ++ [p] by
              rw [HS.out, List.take_add_one, List.getElem?_map, List.getElem?_range hlt]
              simp only [Option.map_some, Option.toList_some]
              rw [HLP.out, HYG.out, hp])
            have HP := Lib.hid hp
            clear KL TL TH hfr htt AP b2 c2 hp HO HB X3 B3
            go_wp2_with (first
              | (refine wpList_load_slot rfl 59 (.tmp 51) rfl (dd.add (k2 * 32)) rfl y.cells _ HD4.out Try.underlying59 rfl (HID.out.trans (by rw [Dg.cells_len])) ?_)
              | fail)
            refine (source_v y (tt - fr) hv A k c B w2 (Reads.below HR.out (B4.out.mono hB)) (by omega) hm (fun x hx => ⟨(HH.out x hx).1.below (B4.out.mono hB), (HH.out x hx).2⟩) HCS.out).mono ?_
            rw [HP.out]
            rintro e w3 ⟨rfl, b3⟩
            have B5 := Lib.hid (B4.out.trans (b3.mono (by omega)))
            have HB5 := Lib.hid (HB4.out.trans (b3.mono (by omega)))
            have HO5 := Lib.hid (own_keep' HO4.out (fun j hj => b3.block j (HO4.out.lt j hj).2))
            have hz3 := b3.size
            have HO6 := Lib.hid (show (w3.alloc (.cells #[.int .i64 p.1, .int .i64 p.2] 47)).ownsRow wa.heap.size 47 2 (.slice A' k2 c') k2 (((srcP l hv).take k2).flatMap srcC) from HO5.out.alloc _)
            have HB6 := Lib.hid (HB5.out.alloc HB5.out.size (.cells #[.int .i64 p.1, .int .i64 p.2] 47))
            have RP := Lib.hid (show Reads (w3.alloc (.cells #[.int .i64 p.1, .int .i64 p.2] 47)) (w3.heap.size + 1) 2 (some ⟨w3.heap.size, 0, none⟩) 1 (srcC p) from
              ⟨rfl, fun _ => ⟨_, rfl, Nat.lt_succ_self _, fun j u hu => by rw [add_head, cell_new]; simpa [srcC] using hu⟩⟩)
            clear b3 HO4 HB4 B4 X4 c4
            go_wp2_with (first
              | (refine wpList_append_src rfl (.tmp 47) (.tmp 58) rfl wa.heap.size A' k2 c' ((srcP l hv).take k2) rfl HO6.out (w3.heap.size + 1) (some ⟨w3.heap.size, 0, none⟩) p rfl RP.out (by omega) (by simp; omega) ?_
                 intro A5 c5 w5 ho5 hg5)
              | fail)
            have HO7 := Lib.hid (show w5.ownsRow wa.heap.size 47 2 (.slice A5 (k2 + 1) c5) (k2 + 1) (((srcP l hv).take (k2 + 1)).flatMap srcC) by rw [HSK.out]; exact ho5)
            have HB7 := Lib.hid (show Below wa.heap.size wa w5 from HB6.out.grown hg5 (by simp; omega) (fun j hj => (HO6.out.lt j hj).1))
            clear ho5 hg5
            go_roundw
            case rel => exact ⟨k2 + 1, A5, c5, hlt, by go_num, rfl, HO7.out, HB7.out⟩
            case measure => simp [intOf]; omega
          · obtain rfl : k2 = nl := by omega
            have HT := Lib.hid (show (srcP l hv).take k2 = srcP l hv from List.take_of_length_le (by rw [HS.out, List.length_map, List.length_range]; exact Nat.le_refl _))
            go_wp2_with fail
            exact bodyPost_ret (results_two rfl _ _) rfl ⟨A', k2, c', by rw [HE.out]; rfl, by rw [HPL.out, ← HT.out]; exact own_down' HO.out (by omega), B3.out⟩
    · have HE := Lib.hid (HQ.out.resolve_left (fun h => hq0 h.1)).2
      have d1 : ((q : Int) == 0) = false := by simp; omega
      have d2 : ((q : Int) != 0) = true := by simp; omega
      have d3 : decide ((q : Int) = 0) = false := by simp; omega
      have HPL := Lib.hid (show planP l hv = [] by unfold planP; rw [if_neg (by rw [HE.out]; exact hq0)])
      have HB1 := Lib.hid (B1.out.trans (HB.out.mono (by omega)))
      clear HQ hq0
      go_wp2_with fail
      all_goals exact bodyPost_ret (results_two rfl _ _) rfl ⟨none, 0, 0, by rw [HE.out]; rfl, by rw [HPL.out]; exact World.ownsRow_nil _ _ _ 2, HB1.out⟩
end Go.Proofs.Ytmaehbebpldpcaa
