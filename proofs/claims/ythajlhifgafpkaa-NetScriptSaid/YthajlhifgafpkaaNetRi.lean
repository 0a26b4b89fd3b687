/-
  Nets, the reference: Peers, Flight.
-/
import Derived.Test.YthajlhifgafpkaaNetRh
namespace Go.Proofs.Ythajlhifgafpkaa
open Go.RowKit Go.Shelf
section
variable {W W' : World} {base b' g nl cl n c m c' nl' cl' : Nat} {AL A A' AL' : Option Addr} {LL : List Lk} {vs : List PkV} {s : NS} {l : List Int}
theorem RN.notInt (h : RN W base g AL nl cl LL A n c vs s) (ho : IOwn W b' A' m c' l) {j : Nat} (hj : (Value.slice A' m c').ownBlock = some j) : j ≠ g ∧ (Value.slice AL nl cl).ownBlock ≠ some j ∧ (Value.slice A n c).ownBlock ≠ some j ∧ ∀ v ∈ vs, (Value.slice v.a v.len v.cap).ownBlock ≠ some j := by
  obtain ⟨cur, hc⟩ := own_cells' ho.1 hj
  refine ⟨fun e => ?_, fun e => ?_, fun e => ?_, fun v hv e => ?_⟩
  · rw [e, h.hg] at hc
    simp at hc
  · obtain ⟨cur2, hc2⟩ := own_cells' h.hl e
    rw [hc] at hc2
    simp at hc2
  · obtain ⟨cur2, hc2⟩ := h.hf.isCells e
    rw [hc] at hc2
    simp at hc2
  · obtain ⟨cur2, hc2⟩ := (h.hf.bytes v hv).1.isCells e
    rw [hc] at hc2
    simp at hc2
theorem RN.grownInt (h : RN W base g AL nl cl LL A n c vs s) (ho : IOwn W b' A' m c' l) (hgr : W.grownBy W' (Value.slice A' m c').ownBlock) : RN W' base g AL nl cl LL A n c vs s :=
  h.keep' (hgr.block g h.lt fun e => (h.notInt ho e.symm).1 rfl) (fun j hj => hgr.block j (h.hl.lt j hj).2 fun e => (h.notInt ho e.symm).2.1 hj) (fun j hj => hgr.block j (h.hf.base_le j hj).2 fun e => (h.notInt ho e.symm).2.2.1 hj) (fun v hv j hj => hgr.block j (h.hf.blt v hv j hj).2 fun e => (h.notInt ho e.symm).2.2.2 v hv hj)
theorem IOwn.rch (h : RN W base g AL nl cl LL A n c vs s) (ho : IOwn W b' A' m c' l) {A'' AL'' : Option Addr} {n'' c'' : Nat} (hr : RCh g AL nl cl A n c AL'' nl' cl' A'' n'' c'' W W') : IOwn W' b' A' m c' l :=
  ⟨own_keep ho.1 fun j hj => hr.blk j (ho.base_le j hj).2 (h.notInt ho hj).1 (h.notInt ho hj).2.1 (h.notInt ho hj).2.2.1, ho.2⟩
theorem PkRow.grown_bytes (h : PkRow W base A n c vs) (hgr : W.grownBy W' (Value.slice A n c).ownBlock) : ∀ v ∈ vs, BOwn W' base v.a v.len v.cap v.pk.bytes ∧ v.len ≤ 262144 := fun v hv =>
  ⟨(h.bytes v hv).1.keep fun j hj => hgr.block j (h.blt v hv j hj).2 fun e => by
    obtain ⟨cur, hc⟩ := (h.bytes v hv).1.isCells hj
    obtain ⟨cur2, hc2⟩ := h.isCells e.symm
    rw [hc] at hc2
    simp at hc2, (h.bytes v hv).2⟩
end
set_option maxHeartbeats 4000000 in
theorem rpeers_v {base g nl cl n c : Nat} {AL A : Option Addr} {s : NS} (a : Int) (w : World) (h : RNy w base g AL nl cl A n c s) (hnl : nl ≤ 900000) :
    Calls Try.prog 33 #[.pointer (some ⟨g, 0, none⟩), .int .i64 a] w fun e w' => ∃ A' n' c', e = .returned (.slice A' n' c') ∧ IOwn w' w.heap.size A' n' c' (s.peers a) ∧ n' ≤ 16 ∧ ∃ nl' : Nat, nl' ≤ nl + 16 ∧ ∃ cl' AL',
      RNy w' base g AL' nl' cl' A n c s ∧ Below base w w' ∧ RCh g AL nl cl A n c AL' nl' cl' A n c w w' := by
  have H := Lib.hid h
  have hbs : base ≤ w.heap.size := by
    obtain ⟨vs, LL, h⟩ := h
    exact Nat.le_of_lt (Nat.lt_of_le_of_lt h.b1 h.lt)
  clear h
  go_enter Try.func33, Try.ntmps33
  go_wp2_with fail
  go_loopw [5, 6] (fun out i wr => ∃ (k n' c' : Nat) (A' : Option Addr), k ≤ 16 ∧ i = .int .i64 ((k : Int) + 1) ∧ out = .slice A' n' c' ∧ n' ≤ k ∧ IOwn wr w.heap.size A' n' c' (peersL s a k) ∧ ∃ nl' : Nat, nl' ≤ nl + k ∧ ∃ cl' AL', RNy wr base g AL' nl' cl' A n c s ∧ Below base w wr ∧ RCh g AL nl cl A n c AL' nl' cl' A n c w wr) (fun _ i _ => 17 - (intOf i).toNat)
  case atStart => exact ⟨0, 0, 0, none, Nat.zero_le _, rfl, rfl, Nat.le_refl _, IOwn.nil_ _ _, nl, Nat.le_refl _, cl, AL, H.out, Below.refl _ _, RCh.refl _ _ _ _ _ _ _ _⟩
  case round =>
    obtain ⟨k, n', c', A', hk, rfl, rfl, hn', ho, nl1, hnl1, cl1, AL1, ⟨vs, LL, h1⟩, b1, r1⟩ := hrel
    have HO := Lib.hid ho
    have HB := Lib.hid b1
    have H1 := Lib.hid h1
    have HR := Lib.hid r1
    clear ho b1 h1 r1
    have HP := Lib.hid (peersL_succ s a k)
    by_cases hlt : k < 16
    · have d1 : decide ((k : Int) + 1 ≤ 16) = true := by simp; omega
      have IV := Lib.hid (ris_v a ((k : Int) + 1) wr ⟨LL, H1.out⟩ (by omega))
      obtain ⟨up, hup⟩ : ∃ u, (s.is a ((k : Int) + 1)).1 = u := ⟨_, rfl⟩
      rw [hup] at IV HP
      clear hup
      go_wp2_with fail
      refine IV.out.mono ?_
      rintro e w1 ⟨rfl, nl2, hnl2, cl2, AL2, ⟨LL2, h2⟩, b2, r2⟩
      have HO1 := Lib.hid (IOwn.rch H1.out HO.out r2)
      have HB1 := Lib.hid (HB.out.trans b2)
      have H2 := Lib.hid h2
      have HR1 := Lib.hid (HR.out.trans r2)
      have hz2 := HR1.out.size
      clear b2 r2 h2 IV HO HB
      cases up
      · go_wp2_with fail
        go_roundw
        case rel => exact ⟨k + 1, n', c', A', hlt, by go_num, rfl, by omega, by rw [HP.out]; simpa using HO1.out, nl2, by omega, cl2, AL2, ⟨vs, LL2, H2.out⟩, HB1.out, HR1.out⟩
        case measure => simp [intOf]; omega
      · have BA := Lib.hid ((Below.refl w1.heap.size w1).alloc (Nat.le_refl _) (.cells #[.int .i64 ((k : Int) + 1)] 3))
        go_wp2_with (first
          | (at_builtin
             go_must (refine wpList_appI (w := w1.alloc (.cells #[.int .i64 ((k : Int) + 1)] 3)) rfl (.tmp 21) (.tmp 23) rfl w.heap.size A' n' c' (peersL s a k) rfl (HO1.out.alloc _) (w1.heap.size + 1) (some ⟨w1.heap.size, 0, none⟩) 1 1 [(k : Int) + 1] rfl (IReads.one _ _ _) (n' + 1) (peersL s a (k + 1)) rfl (by rw [HP.out]; rfl) (by omega) (by simp; omega) ?_)
             intro A2 c2 w2 ho2 hg2
             go_must (
             have HO2 := Lib.hid ho2
             have hno : ∀ j, (Value.slice A' n' c').ownBlock = some j → w.heap.size ≤ j := fun j hj => (HO1.out.base_le j hj).1
             have HB2 := Lib.hid (show Below base w w2 from (HB1.out.trans (BA.out.mono (by omega))).grown hg2 (by simp; omega) (fun j hj => Nat.le_trans hbs (hno j hj)))
             have H3 := Lib.hid ((H2.out.below BA.out).grownInt (HO1.out.alloc _) hg2)
             have HR2 := Lib.hid (show RCh g AL nl cl A n c AL2 nl2 cl2 A n c w w2 from ⟨Nat.le_trans hz2 (Nat.le_trans BA.out.size hg2.size), fun j hj h1 h2 h3 => by
               rw [hg2.block j (by have := BA.out.size; omega) (fun e => by have := hno j e.symm; omega), BA.out.block j (by omega)]
               exact HR1.out.blk j hj h1 h2 h3, HR1.out.ownl, HR1.out.own⟩))
             clear ho2 hg2)
          | fail)
        go_roundw
        case rel => exact ⟨k + 1, n' + 1, c2, A2, hlt, by go_num, rfl, by omega, HO2.out, nl2, by omega, cl2, AL2, ⟨vs, LL2, H3.out⟩, HB2.out, HR2.out⟩
        case measure => simp [intOf]; omega
    · obtain rfl : k = 16 := by omega
      have d1 : decide (((16 : Nat) : Int) + 1 ≤ 16) = false := by decide
      go_wp2_with fail
      go_ret
      exact ⟨A', n', c', rfl, HO.out, hn', nl1, by omega, cl1, AL1, ⟨vs, LL, H1.out⟩, HB.out, HR.out⟩
/-- A row of packets of its own, with these packets, bytes and all. -/
def FlB (W : World) (base : Nat) (A : Option Addr) (n c : Nat) (fl : List Pk) : Prop := ∃ xs, PkRow W base A n c xs ∧ xs.map (·.pk) = fl
set_option maxRecDepth 100000 in
set_option maxHeartbeats 4000000 in
theorem rflight_v {base g nl cl n c : Nat} {AL A : Option Addr} {s : NS} (w : World) (h : RNy w base g AL nl cl A n c s) (hn : n ≤ 4096) :
    Calls Try.prog 34 #[.pointer (some ⟨g, 0, none⟩)] w fun e w' => ∃ A' c', e = .returned (.slice A' n c') ∧ FlB w' w.heap.size A' n c' s.fl ∧ Below w.heap.size w w' := by
  obtain ⟨vs, LL, h⟩ := h
  have H := Lib.hid h
  have HI := Lib.hid (show (Try.prog.info? 34).map (·.size) = some 5 by kernel_rfl)
  clear h
  go_enter Try.func34, Try.ntmps34
  go_wp2_with fail
  go_loopw [3, 4] (fun out ix wr => ∃ (k c' : Nat) (A' : Option Addr), k ≤ n ∧ ix = .int .i64 (k : Int) ∧ out = .slice A' k c' ∧ FlB wr w.heap.size A' k c' (s.fl.take k) ∧ Below w.heap.size w wr) (fun _ ix _ => n - (intOf ix).toNat)
  case atStart => exact ⟨0, 0, none, Nat.zero_le _, rfl, rfl, ⟨[], PkRow.nil_ _ _, rfl⟩, Below.refl _ _⟩
  case round =>
    obtain ⟨k, c', A', hk, rfl, rfl, ⟨xs, ho, hxs⟩, hb⟩ := hrel
    have HO := Lib.hid ho
    have HB := Lib.hid hb
    have HXS := Lib.hid hxs
    have H3 := Lib.hid (H.out.below hb)
    have d1 := H3.out.c1
    clear ho hb hxs
    by_cases hlt : k < n
    · have q0 : decide (k < n) = true := by simpa using hlt
      obtain ⟨ga, v, rfl, hbga, hgal, hv, hc⟩ := H3.out.hf.at_ hlt
      have HC := Lib.hid (hc wr rfl)
      have HT := Lib.hid (show s.fl.take (k + 1) = s.fl.take k ++ [v.pk] by rw [List.take_add_one, ← H.out.hv, List.getElem?_map, hv]; rfl)
      have HBV := Lib.hid (H3.out.hf.bytes v (List.mem_of_getElem? hv))
      have j0 : (0 : Int) ≤ (k : Int) := by omega
      clear hc hv
      have hbz := HB.out.size
      go_wp2_with (first
        | (refine wpList_load_slot rfl 34 (.tmp 20) rfl ⟨ga, k * 5, none⟩ rfl v.cells _ HC.out Try.underlying34 rfl HI.out ?_)
        | fail)
      refine (copied_v v.pk.num v.pk.frm v.pk.too v.pk.run v.a v.len v.cap wr.heap.size v.pk.bytes wr HBV.out.1.reads (Nat.le_refl _) (by have := HBV.out.2; omega)).mono ?_
      rintro e w1 ⟨va2, vc2, rfl, o2, b2⟩
      have B1 := Lib.hid (HB.out.trans (b2.mono hbz))
      have O1 := Lib.hid (HO.out.below b2)
      have V1 := Lib.hid (o2.down hbz)
      have hz1 := b2.size
      have O5 := Lib.hid ((O1.out.below ((Below.refl w1.heap.size w1).alloc (Nat.le_refl _) (.cells (PkV.cells ⟨v.pk, va2, v.len, vc2⟩).toArray 34))))
      have V5 := Lib.hid (V1.out.below ((Below.refl w1.heap.size w1).alloc (Nat.le_refl _) (.cells (PkV.cells ⟨v.pk, va2, v.len, vc2⟩).toArray 34)))
      have B5 := Lib.hid (B1.out.alloc (Nat.le_trans hbz hz1) (.cells (PkV.cells ⟨v.pk, va2, v.len, vc2⟩).toArray 34))
      have HN5 := Lib.hid (heap_alloc_new w1 (.cells (PkV.cells ⟨v.pk, va2, v.len, vc2⟩).toArray 34))
      have HM7 := Lib.hid (show k + 1 ≤ 10000000 by omega)
      clear o2 b2 q0 d1
      go_wp2_with (first
        | (at_builtin
           go_must (refine wpList_appPk (w := w1.alloc (.cells (PkV.cells ⟨v.pk, va2, v.len, vc2⟩).toArray 34)) rfl (.tmp 14) (.tmp 23) rfl w.heap.size A' k c' xs rfl O5.out.row w1.heap.size 1 ⟨v.pk, va2, v.len, vc2⟩ rfl HN5.out (k + 1) _ rfl rfl HM7.out B5.out.size ?_)
           intro A6 c6 w6 ho6 hc6 hg6
           go_must (
           have O6 := Lib.hid (show FlB w6 w.heap.size A6 (k + 1) c6 (s.fl.take (k + 1)) from ⟨xs ++ [⟨v.pk, va2, v.len, vc2⟩], ⟨ho6, hc6, fun u hu => by
             rcases List.mem_append.1 hu with hu | hu
             · exact O5.out.grown_bytes hg6 u hu
             · rw [List.mem_singleton.1 hu]
               exact ⟨V5.out.keep fun j hj => hg6.block j (V5.out.base_le j hj).2 fun e => by
                 obtain ⟨cur, hcc⟩ := V5.out.isCells hj
                 obtain ⟨cur2, hc2⟩ := O5.out.isCells e.symm
                 rw [hcc] at hc2
                 simp at hc2, HBV.out.2⟩⟩, by rw [List.map_append, HXS.out, HT.out]; rfl⟩)
           have B6 := Lib.hid (B5.out.grown hg6 B5.out.size (fun j hj => (O5.out.base_le j hj).1)))
           clear ho6 hg6)
        | fail)
      go_roundw
      case rel => exact ⟨k + 1, c6, A6, hlt, by go_num, rfl, O6.out, B6.out⟩
      case measure => simp [intOf]; omega
    · obtain rfl : n = k := by omega
      have q0 : decide (n < n) = false := by simp
      go_wp2_with fail
      go_ret
      exact ⟨A', c', rfl, ⟨xs, HO.out, by rw [HXS.out, List.take_of_length_le (by rw [H.out.len]; exact Nat.le_refl _)]⟩, HB.out⟩
end Go.Proofs.Ythajlhifgafpkaa
