/-
  Vectors: Text of a vector that may be.
-/
import Derived.Test.YtippojkdgecblaaDoorVecN
import Derived.Deep.RegionWith
import Derived.WalkSmall
import Derived.Deep.Cut
import Derived.Handy
namespace Go.Proofs.YtippojkdgecblaaDoor
open Go.RowKit
theorem tab_below {w w' : World} (h : Lib.TabIs Tryd.prog w "internal/strconv.uint64pow10" .u64 Lib.pow10Tab) (hb : Below w.heap.size w w') : Lib.TabIs Tryd.prog w' "internal/strconv.uint64pow10" .u64 Lib.pow10Tab := by
  have gPow : Tryd.prog.globalNamed "internal/strconv.uint64pow10" = some 0 := by kernel_rfl
  unfold Lib.TabIs at h ⊢
  refine var?_below hb gPow ?_ h
  unfold World.var? at h
  rw [gPow] at h
  simp only [Option.bind_some] at h
  rcases Nat.lt_or_ge 0 w.heap.size with h2 | h2
  · exact h2
  · rw [Array.getElem?_eq_none h2] at h
    cases h
theorem itoaS_v (i : Nat) (hi : i < 100) (w : World) : Calls Tryd.prog 31 #[.int .i64 (i : Int)] w fun e w' => e = .returned (.string (st (dec i))) ∧ w = w' := by
  refine (Tryd.strconv_Itoa_small i hi w).mono ?_
  rintro e w' ⟨rfl, rfl⟩
  exact ⟨rfl, rfl⟩
theorem dec_lenU {n k : Nat} (hk : 1 ≤ k) (h : n < 10 ^ k) : (dec n).length ≤ k := by
  induction k generalizing n with
  | zero => omega
  | succ k ih =>
    unfold dec
    rw [Lib.decDigits]
    split
    · simp
    · rename_i h10
      rcases Nat.eq_zero_or_pos k with e | e
      · subst e
        simp at h
        omega
      · have := ih (n := n / 10) e (by rw [Nat.pow_succ] at h; omega)
        unfold dec at this
        rw [List.length_append, List.length_singleton]
        omega
set_option maxRecDepth 100000 in
set_option maxHeartbeats 4000000 in
theorem text_v (B : Nat) (A : Option Addr) (n c : Nat) (l : List (Int × Nat)) (w : World) (hr : CReads w B A n l) (hB : B ≤ w.heap.size) (ho : okV 0 l = true) (hf : fitV l) (hd : ∀ x ∈ l, 1 ≤ x.1 ∧ x.1 ≤ 16) (hn : n ≤ 16)
    (ht : Lib.TabIs Tryd.prog w "internal/strconv.uint64pow10" .u64 Lib.pow10Tab) :
    Calls Tryd.prog 10 #[.slice A n c] w fun e w' => e = .returned (.string (st (textJ l))) ∧ Below w.heap.size w w' := by
  have CV := check_v B A n c l w hr hB (by omega)
  rw [ho] at CV
  have HR := Lib.hid hr
  have HL := Lib.hid hr.len
  have HT := Lib.hid ht
  have HF := Lib.hid hf
  have HD := Lib.hid hd
  clear hr ho ht hf hd
  go_enter Tryd.func10, Tryd.ntmps10
  go_wp2_with fail
  refine CV.mono ?_
  rintro e w1 ⟨rfl, b1⟩
  have B1 := Lib.hid b1
  have hz1 := b1.size
  clear b1 CV
  go_wp2_with fail
  go_loopw [3, 5, 11] (fun o _ i wr => ∃ (k c' : Nat) (A' : Option Addr), k ≤ n ∧ i = .int .i64 (k : Int) ∧ o = .slice A' k c' ∧ SOwn wr w1.heap.size A' k c' ((l.take k).map fun x => st (cntT x)) ∧ Below w1.heap.size w1 wr) (fun _ _ i _ => n - (intOf i).toNat)
  case atStart => exact ⟨0, 0, none, Nat.zero_le _, rfl, rfl, by simp; exact SOwn.nil_ w1 _, Below.refl _ _⟩
  case round =>
    obtain ⟨k, c', A', hk, rfl, rfl, hso, hb⟩ := hrel
    have HO := Lib.hid hso
    have HB := Lib.hid hb
    have hzr := hb.size
    clear hso hb
    by_cases hlt : k < n
    · obtain ⟨ad, x, rfl, hblk, hx, hc0, hc1⟩ := CReads.at_ HR.out hlt
      have k0 : (0 : Int) ≤ (k : Int) := by omega
      have BB := Lib.hid (B1.out.trans (HB.out.mono hz1))
      have c0 : wr.cell? (ad.add (k * 2)) = some (.int .i64 x.1) := (BB.out.cell (by rw [block_of_add]; omega)).trans hc0
      have c1 : wr.cell? ⟨(ad.add (k * 2)).block, (ad.add (k * 2)).off + 1, none⟩ = some (.int .u64 (x.2 : Int)) := (BB.out.cell (p := ⟨(ad.add (k * 2)).block, (ad.add (k * 2)).off + 1, none⟩) (by show (ad.add (k * 2)).block < _; rw [block_of_add]; omega)).trans hc1
      have hxm := List.mem_of_getElem? hx
      obtain ⟨dv, hdv⟩ : ∃ dv : Nat, x.1 = (dv : Int) := ⟨x.1.toNat, by have := (HD.out x hxm).1; omega⟩
      have HDV := Lib.hid (show dv < 100 by have := (HD.out x hxm).2; omega)
      have HXF := Lib.hid (HF.out x hxm)
      have HX := Lib.hid hx
      rw [hdv] at c0
      clear hc0 hc1 hx hxm hblk
      go_upto_region 7 with fail
      have K0 : (wr.alloc (.cells #[.int .i64 (dv : Int), .int .u64 (x.2 : Int)] 29)).cell? ⟨wr.heap.size, 0, none⟩ = some (.int .i64 (dv : Int)) := World.cell?_alloc_at _ _ _ _ rfl
      have K1 : (wr.alloc (.cells #[.int .i64 (dv : Int), .int .u64 (x.2 : Int)] 29)).cell? ⟨wr.heap.size, 1, none⟩ = some (.int .u64 (x.2 : Int)) := World.cell?_alloc_at _ _ _ _ rfl
      have HO1 := Lib.hid (HO.out.alloc (.cells #[.int .i64 (dv : Int), .int .u64 (x.2 : Int)] 29))
      have HB1 := Lib.hid (HB.out.alloc hzr (.cells #[.int .i64 (dv : Int), .int .u64 (x.2 : Int)] 29))
      have hz2 : wr.heap.size < (wr.alloc (.cells #[.int .i64 (dv : Int), .int .u64 (x.2 : Int)] 29)).heap.size := by simp
      clear c0 c1 HO HB
      generalize wr.alloc (.cells #[.int .i64 (dv : Int), .int .u64 (x.2 : Int)] 29) = W1 at *
      generalize wr.heap.size = g1 at *
      have HK := Lib.hid (And.intro K0 K1)
      have HTW := Lib.hid (tab_below HT.out (show Below w.heap.size w W1.drew from (B1.out.trans (HB1.out.mono hz1)).drew))
      have IV := Lib.hid (fun w => itoaS_v dv HDV.out w)
      have l1 := dec_lenU (n := dv) (k := 2) (by decide) (by have := HDV.out; omega)
      have l2 := dec_lenU (n := x.2) (k := 20) (by decide) (Nat.lt_of_lt_of_le HXF.out (by decide))
      have hxt : cntT x = dec dv ++ [58] ++ dec x.2 := by unfold cntT; rw [hdv, Int.toNat_natCast]
      have e1 : st (dec dv) ++ (⟨#[58]⟩ : ByteArray) = st (dec dv ++ [58]) := st_app _ [58]
      have e2 : st (dec dv ++ [58]) ++ st (dec x.2) = st (cntT x) := by rw [hxt, st_app]
      have z1 : (st (dec dv)).size ≤ 1000 := by rw [st_size]; omega
      have z2 : (st (dec dv ++ [58])).size ≤ 1000 := by rw [st_size, List.length_append]; simp only [List.length_cons, List.length_nil]; omega
      have z3 : (st (dec x.2)).size ≤ 1000 := by rw [st_size]; omega
      have q1 : ¬ 9223372036854775807 < (st (dec dv)).size + 1 := by omega
      have q2 : ¬ 9223372036854775807 < (st (dec dv ++ [58])).size + (st (dec x.2)).size := by omega
      have FV := Lib.hid (fun w h => fmtU_v x.2 w HXF.out h)
      have HX1 := Lib.hid (show (l.take (k + 1)).map (fun x => st (cntT x)) = (l.take k).map (fun x => st (cntT x)) ++ [st (cntT x)] by
        rw [List.take_add_one, HX.out]; simp)
      clear hxt hdv HDV HXF
      generalize dec dv ++ [58] = t1 at *
      generalize dec dv = t2 at *
      generalize dec x.2 = t3 at *
      generalize cntT x = t4 at *
      generalize x.2 = xv at *
      go_region_law (first
        | (refine step_appS rfl (.tmp 15) (.tmp 24) rfl w1.heap.size A' k c' _ rfl (HOV.out.alloc _) _ (some ⟨_, 0, none⟩) 1 1 [st t4] rfl (SReads.one _ _ _) ?_ ?_ ?_; omega; (simp; omega); intro A7 c7 w7 ho7 hg7)
        | (go_simp; go_at_call 31; refine (IV.out _).mono ?_; rintro e _ ⟨rfl, rfl⟩)
        | (go_simp; go_at_call 32; refine (FV.out _ HTW.out).mono ?_; rintro e V ⟨rfl, b⟩; have kc0 := (b.cell (p := ⟨g1, 0, none⟩) hz2).trans HK.out.1; have kc1 := (b.cell (p := ⟨g1, 1, none⟩) hz2).trans HK.out.2; have HOV := Lib.hid ((HO1.out.below ((Below.refl _ _).drew)).below b); have HBV := Lib.hid (HB1.out.drew.trans (b.mono HB1.out.size)); have hzv := HBV.out.size; clear b))
      all_goals
        have HB7 := Lib.hid (sown_app (HBV.out.alloc hzv (.cells #[.string (st t4)] 9)) hg7 (HOV.out.alloc _) (Nat.le_refl _) (by simp; omega))
        have HO7 := Lib.hid ho7
        clear ho7 hg7
        go_wp2_with fail
        go_roundw
        case rel => exact ⟨k + 1, c7, A7, hlt, by go_num, rfl, by rw [HX1.out]; exact HO7.out, HB7.out⟩
        case measure => simp [intOf] <;> omega
    · obtain rfl : k = n := by omega
      have HTK := Lib.hid (show l.take k = l from List.take_of_length_le (by rw [HL.out]; exact Nat.le_refl _))
      rw [HTK.out] at HO
      have hsz : ∀ x ∈ l, (cntT x).length ≤ 23 := fun x hx => by
        have h1 := HD.out x hx
        have l1 := dec_lenU (n := x.1.toNat) (k := 2) (by decide) (by omega)
        have l2 := dec_lenU (n := x.2) (k := 20) (by decide) (Nat.lt_of_lt_of_le (HF.out x hx) (by decide))
        unfold cntT
        simp only [List.length_append, List.length_cons, List.length_nil]
        omega
      have hjl : ∀ l : List (Int × Nat), (∀ x ∈ l, (cntT x).length ≤ 23) → (textJ l).length ≤ 24 * l.length := fun l => by
        intro h
        unfold textJ
        cases l with
        | nil => simp [Lib.join_nil]
        | cons y r =>
          rw [List.map_cons, Lib.join_cons, List.length_append]
          have h0 := h y List.mem_cons_self
          have h2 : ∀ r : List (Int × Nat), (∀ x ∈ r, (cntT x).length ≤ 23) → (Lib.joinTail [32] (r.map cntT)).length ≤ 24 * r.length := fun r => by
            induction r with
            | nil => intro _; simp [Lib.joinTail]
            | cons z r ih =>
              intro h
              have h3 := ih fun x hx => h x (List.mem_cons_of_mem _ hx)
              have h4 := h z List.mem_cons_self
              simp only [Lib.joinTail, List.map_cons, List.flatten_cons, List.length_append, List.length_cons, List.length_nil] at h3 ⊢
              omega
          have := h2 r fun x hx => h x (List.mem_cons_of_mem _ hx)
          simp only [List.length_cons]
          omega
      have HJL := Lib.hid (show (textJ l).length ≤ 384 by have := hjl l hsz; rw [HL.out] at this; omega)
      have hmap : (l.map fun x => st (cntT x)).map (fun x => x.data.toList) = l.map cntT := by rw [List.map_map]; rfl
      have JV : Calls Tryd.prog 33 #[.slice A' k c', .string (⟨#[32]⟩ : ByteArray)] wr fun e w' => e = .returned (.string (st (textJ l))) ∧ Below wr.heap.size wr w' := by
        rcases HO.out.1.2 with ⟨hv, h0⟩ | ⟨g, cap, cur, hv, hg, hh, hrest⟩
        · injection hv with h1 h2 h3
          have hl0 : l = [] := List.eq_nil_of_length_eq_zero (by rw [HL.out]; exact h0)
          rw [h1, h0, h3, hl0]
          refine (Tryd.strings_Join_none none 0 _ wr).mono ?_
          rintro e w' ⟨rfl, rfl⟩
          exact ⟨rfl, Below.refl _ _⟩
        · injection hv with h1 h2 h3
          have hlen : (l.map fun x => st (cntT x)).length = k := by rw [List.length_map, HL.out]
          have J := Tryd.strings_Join g 0 c' (l.map fun x => st (cntT x)) (st [32]) wr (fun j y hy => by
            have hj : j < k := by rw [← hlen]; exact (List.getElem?_eq_some_iff.1 hy).1
            obtain ⟨ad2, d2, ha2, hd2, hc2⟩ := SReads.at_ HO.out.reads hj
            rw [h1] at ha2
            obtain rfl := Option.some.inj ha2
            rw [hy] at hd2
            obtain rfl := Option.some.inj hd2
            have h5 := hc2 wr (Below.refl _ _)
            rwa [Lib.add_plain] at h5) (Array.getElem?_eq_some_iff.1 hh).1 (by rw [hlen]; omega) (by rw [hlen]; exact HO.out.2) (by rw [hmap]; show (textJ l).length ≤ _; have := HJL.out; omega)
          rw [hlen, hmap] at J
          rw [h1]
          exact J
      have BB := Lib.hid (B1.out.trans (HB.out.mono hz1))
      clear hsz hjl hmap HJL
      go_wp2_with fail
      refine JV.mono ?_
      rintro e w9 ⟨rfl, b9⟩
      go_wp2_with fail
      go_ret
      exact ⟨rfl, BB.out.trans (b9.mono BB.out.size)⟩
end Go.Proofs.YtippojkdgecblaaDoor
