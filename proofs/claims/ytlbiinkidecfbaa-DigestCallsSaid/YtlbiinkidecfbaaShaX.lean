/-
  Digests, the reference: what stands behind the bytes, text.
-/
import Derived.Test.YtlbiinkidecfbaaShaK
namespace Go.Proofs.Ytlbiinkidecfbaa
open Go.RowKit
set_option maxHeartbeats 4000000 in
theorem rpad_v (z : Int) (w : World) (h0 : -9223372036854775808 ≤ z) (hz : z ≤ 2199023255552) :
    Calls Try.prog 24 #[.int .i64 z] w fun e w' => ∃ A c, e = .returned (.slice A (padL z.toNat).length c) ∧ BOwn w' w.heap.size A (padL z.toNat).length c (toB (padL z.toNat)) ∧ Below w.heap.size w w' := by
  obtain ⟨n, hn⟩ : ∃ n, z.toNat = n := ⟨_, rfl⟩
  have hmx : max 0 z = (n : Int) := by omega
  have hmx2 : max z 0 = (n : Int) := by omega
  have hnb : n ≤ 2199023255552 := by omega
  rw [hn]
  by_cases h1 : z ≤ 0
  · obtain rfl : n = 0 := by omega
    clear hn h0 hz hmx hmx2
    have HZ := Lib.hid (show (0 + (zerosN 0 + 1)) % 64 = 56 by unfold zerosN; omega)
    have HZ2 := Lib.hid (show ∀ m, 1 ≤ m → m ≤ zerosN 0 → (0 + m) % 64 ≠ 56 by unfold zerosN; omega)
    have HZ3 : zerosN 0 ≤ 63 := by unfold zerosN; omega
    go_enter Try.func24, Try.ntmps24
    go_wp2
    have B0 := Lib.hid (BOwn.start w 128)
    go_loopw [3] (fun o wr => ∃ (m : Nat) (A : Option Addr) (c : Nat), 1 ≤ m ∧ m ≤ zerosN 0 + 1 ∧ o = .slice A m c ∧ BOwn wr w.heap.size A m c (128 :: List.replicate (m - 1) 0) ∧ Below w.heap.size w wr) (fun o _ => 100 - sliceLen o)
    case atStart => exact ⟨1, _, _, Nat.le_refl _, Nat.le_add_left _ _, rfl, B0.out, (Below.refl _ _).alloc (Nat.le_refl _) _⟩
    case round =>
      clear B0
      obtain ⟨m, A, c, hm1, hm2, rfl, ho, hb⟩ := hrel
      by_cases hlt : m ≤ zerosN 0
      · have d1 : (((m : Int) + 8) % 64 != 0) = true := by have := HZ2.out m hm1 hlt; rw [bne_iff_ne]; omega
        have HL := Lib.hid (show (128 : UInt8) :: List.replicate (m - 1) 0 ++ [0] = 128 :: List.replicate (m + 1 - 1) 0 by rw [show m + 1 - 1 = m - 1 + 1 by omega, List.replicate_succ', List.cons_append])
        go_wp2_with (at_builtin; refine wpList_app rfl (.tmp 16) (.tmp 17) rfl w.heap.size A m c _ rfl (ho.alloc _) (wr.heap.size + 1) (some ⟨wr.heap.size, 0, none⟩) 1 1 [0] rfl (BReads.one _ _ _ rfl) (m + 1) _ rfl HL.out (by omega) (by simp; exact Nat.le_succ_of_le hb.size) ?_; intro A1 c1 w1 ho1 hg1 _)
        go_roundw
        case rel => exact ⟨m + 1, A1, c1, by omega, by omega, rfl, ho1, below_app (hb.alloc hb.size _) hg1 (ho.alloc _) (Nat.le_refl _) (by simp; exact Nat.le_succ_of_le hb.size)⟩
        case measure => simp [sliceLen]; omega
      · obtain rfl : m = zerosN 0 + 1 := by omega
        obtain ⟨m, hm⟩ : ∃ m, zerosN 0 + 1 = m := ⟨_, rfl⟩
        have hmb : m ≤ 64 := by omega
        have HB := Lib.hid (show toB (padL 0) = (128 :: List.replicate (m - 1) 0) ++ toB ((tailL 0).take 8) by rw [padL_eq, ← hm, show (tailL 0).take 8 = tailL 0 from rfl, toB, toB, List.map_cons, List.map_append, List.map_replicate]; rfl)
        have HLN := Lib.hid (show (padL 0).length = m + 8 by rw [pad_len]; omega)
        have HZ4 := HZ.out
        rw [hm] at ho HZ4
        have d1 : (((m : Int) + 8) % 64 != 0) = false := by rw [bne_eq_false_iff_eq]; omega
        have HO := Lib.hid (show BOwn wr w.heap.size A m c (128 :: List.replicate (m - 1) 0 ++ toB ((tailL 0).take 0)) by simpa [toB] using ho)
        rw [hm]
        clear hm ho hlt hm1 hm2 HZ4
        have q0 : (0 : Int) ≤ 0 * 8 ∧ 0 * 8 < 18446744073709551616 := by omega
        obtain ⟨q0, q1⟩ := q0
        go_wp2
        obtain ⟨wo, rfl⟩ : ∃ wo : World, wo = wr := ⟨_, rfl⟩
        go_loopw [3, 5] (fun o i wq => ∃ (k : Nat) (A : Option Addr) (c : Nat), k ≤ 8 ∧ i = .int .i64 (56 - 8 * (k : Int)) ∧ o = .slice A (m + k) c ∧ BOwn wq w.heap.size A (m + k) c (128 :: List.replicate (m - 1) 0 ++ toB ((tailL 0).take k)) ∧ Below w.heap.size w wq) (fun _ i _ => (intOf i + 8).toNat)
        case atStart => exact ⟨0, A, c, Nat.zero_le _, rfl, rfl, HO.out, hb⟩
        case round =>
          clear HO hb
          obtain ⟨k, A, c, hk, rfl, rfl, ho, hb⟩ := hrel
          by_cases hlt : k < 8
          · obtain ⟨x, hx, hxe, hxt⟩ := tail_take 0 k hlt
            have HT := Lib.hid (show 128 :: List.replicate (m - 1) 0 ++ toB ((tailL 0).take k) ++ [UInt8.ofNat x] = 128 :: List.replicate (m - 1) 0 ++ toB ((tailL 0).take (k + 1)) by rw [hxt, List.append_assoc])
            have HO := Lib.hid ho
            have HX := Lib.hid hxe
            clear ho hxe hxt
            rcases (show k = 0 ∨ k = 1 ∨ k = 2 ∨ k = 3 ∨ k = 4 ∨ k = 5 ∨ k = 6 ∨ k = 7 by omega) with rfl | rfl | rfl | rfl | rfl | rfl | rfl | rfl
            all_goals
              have hxv := Option.some.inj (show some _ = some x from HX.out)
              have HXV := Lib.hid hxv
              clear hxv
              first | rw [show (56 : Int) - 8 * ((0 : Nat) : Int) = 56 from rfl] | rw [show (56 : Int) - 8 * ((1 : Nat) : Int) = 48 from rfl] | rw [show (56 : Int) - 8 * ((2 : Nat) : Int) = 40 from rfl] | rw [show (56 : Int) - 8 * ((3 : Nat) : Int) = 32 from rfl] | rw [show (56 : Int) - 8 * ((4 : Nat) : Int) = 24 from rfl] | rw [show (56 : Int) - 8 * ((5 : Nat) : Int) = 16 from rfl] | rw [show (56 : Int) - 8 * ((6 : Nat) : Int) = 8 from rfl] | rw [show (56 : Int) - 8 * ((7 : Nat) : Int) = 0 from rfl]
              go_wp2_with (at_builtin; refine wpList_app rfl (.tmp 26) (.tmp 32) rfl w.heap.size A _ c _ rfl (HO.out.alloc _) (wr.heap.size + 1) (some ⟨wr.heap.size, 0, none⟩) 1 1 [UInt8.ofNat x] rfl (BReads.one _ _ _ (by have := HXV.out; simp [Nat.mod_eq_of_lt hx]; omega)) _ _ rfl HT.out (by omega) (by simp; exact Nat.le_succ_of_le hb.size) ?_; intro A1 c1 w1 ho1 hg1 _)
              go_roundw
              case rel => exact ⟨_, A1, c1, hlt, rfl, rfl, ho1, below_app (hb.alloc hb.size _) hg1 (HO.out.alloc _) (Nat.le_refl _) (by simp; exact Nat.le_succ_of_le hb.size)⟩
              case measure => simp [intOf]
          · obtain rfl : k = 8 := by omega
            have HO := Lib.hid ho
            clear ho
            rw [show (56 : Int) - 8 * ((8 : Nat) : Int) = -8 from rfl]
            go_wp2
            go_ret
            exact ⟨A, c, by rw [HLN.out]; rfl, by rw [HLN.out, HB.out]; exact HO.out, hb⟩
  · obtain rfl : z = (n : Int) := by omega
    clear hn h0 hz hmx hmx2
    have HZ := Lib.hid (show (n + (zerosN n + 1)) % 64 = 56 by unfold zerosN; omega)
    have HZ2 := Lib.hid (show ∀ m, 1 ≤ m → m ≤ zerosN n → (n + m) % 64 ≠ 56 by unfold zerosN; omega)
    have HZ3 : zerosN n ≤ 63 := by unfold zerosN; omega
    go_enter Try.func24, Try.ntmps24
    go_wp2
    have B0 := Lib.hid (BOwn.start w 128)
    go_loopw [3] (fun o wr => ∃ (m : Nat) (A : Option Addr) (c : Nat), 1 ≤ m ∧ m ≤ zerosN n + 1 ∧ o = .slice A m c ∧ BOwn wr w.heap.size A m c (128 :: List.replicate (m - 1) 0) ∧ Below w.heap.size w wr) (fun o _ => 100 - sliceLen o)
    case atStart => exact ⟨1, _, _, Nat.le_refl _, Nat.le_add_left _ _, rfl, B0.out, (Below.refl _ _).alloc (Nat.le_refl _) _⟩
    case round =>
      clear B0
      obtain ⟨m, A, c, hm1, hm2, rfl, ho, hb⟩ := hrel
      by_cases hlt : m ≤ zerosN n
      · have d1 : (((n : Int) + (m : Int) + 8) % 64 != 0) = true := by have := HZ2.out m hm1 hlt; rw [bne_iff_ne]; omega
        have HL := Lib.hid (show (128 : UInt8) :: List.replicate (m - 1) 0 ++ [0] = 128 :: List.replicate (m + 1 - 1) 0 by rw [show m + 1 - 1 = m - 1 + 1 by omega, List.replicate_succ', List.cons_append])
        go_wp2_with (at_builtin; refine wpList_app rfl (.tmp 16) (.tmp 17) rfl w.heap.size A m c _ rfl (ho.alloc _) (wr.heap.size + 1) (some ⟨wr.heap.size, 0, none⟩) 1 1 [0] rfl (BReads.one _ _ _ rfl) (m + 1) _ rfl HL.out (by omega) (by simp; exact Nat.le_succ_of_le hb.size) ?_; intro A1 c1 w1 ho1 hg1 _)
        go_roundw
        case rel => exact ⟨m + 1, A1, c1, by omega, by omega, rfl, ho1, below_app (hb.alloc hb.size _) hg1 (ho.alloc _) (Nat.le_refl _) (by simp; exact Nat.le_succ_of_le hb.size)⟩
        case measure => simp [sliceLen]; omega
      · obtain rfl : m = zerosN n + 1 := by omega
        obtain ⟨m, hm⟩ : ∃ m, zerosN n + 1 = m := ⟨_, rfl⟩
        have hmb : m ≤ 64 := by omega
        have HB := Lib.hid (show toB (padL n) = (128 :: List.replicate (m - 1) 0) ++ toB ((tailL n).take 8) by rw [padL_eq, ← hm, show (tailL n).take 8 = tailL n from rfl, toB, toB, List.map_cons, List.map_append, List.map_replicate]; rfl)
        have HLN := Lib.hid (show (padL n).length = m + 8 by rw [pad_len]; omega)
        have HZ4 := HZ.out
        rw [hm] at ho HZ4
        have d1 : (((n : Int) + (m : Int) + 8) % 64 != 0) = false := by rw [bne_eq_false_iff_eq]; omega
        have HO := Lib.hid (show BOwn wr w.heap.size A m c (128 :: List.replicate (m - 1) 0 ++ toB ((tailL n).take 0)) by simpa [toB] using ho)
        rw [hm]
        clear hm ho hlt hm1 hm2 HZ4
        have q0 : (0 : Int) ≤ (n : Int) * 8 ∧ (n : Int) * 8 < 18446744073709551616 := by omega
        obtain ⟨q0, q1⟩ := q0
        go_wp2
        obtain ⟨wo, rfl⟩ : ∃ wo : World, wo = wr := ⟨_, rfl⟩
        go_loopw [3, 5] (fun o i wq => ∃ (k : Nat) (A : Option Addr) (c : Nat), k ≤ 8 ∧ i = .int .i64 (56 - 8 * (k : Int)) ∧ o = .slice A (m + k) c ∧ BOwn wq w.heap.size A (m + k) c (128 :: List.replicate (m - 1) 0 ++ toB ((tailL n).take k)) ∧ Below w.heap.size w wq) (fun _ i _ => (intOf i + 8).toNat)
        case atStart => exact ⟨0, A, c, Nat.zero_le _, rfl, rfl, HO.out, hb⟩
        case round =>
          clear HO hb
          obtain ⟨k, A, c, hk, rfl, rfl, ho, hb⟩ := hrel
          by_cases hlt : k < 8
          · obtain ⟨x, hx, hxe, hxt⟩ := tail_take n k hlt
            have HT := Lib.hid (show 128 :: List.replicate (m - 1) 0 ++ toB ((tailL n).take k) ++ [UInt8.ofNat x] = 128 :: List.replicate (m - 1) 0 ++ toB ((tailL n).take (k + 1)) by rw [hxt, List.append_assoc])
            have HO := Lib.hid ho
            have HX := Lib.hid hxe
            clear ho hxe hxt
            rcases (show k = 0 ∨ k = 1 ∨ k = 2 ∨ k = 3 ∨ k = 4 ∨ k = 5 ∨ k = 6 ∨ k = 7 by omega) with rfl | rfl | rfl | rfl | rfl | rfl | rfl | rfl
            all_goals
              have hxv := Option.some.inj (show some _ = some x from HX.out)
              have HXV := Lib.hid hxv
              clear hxv
              first | rw [show (56 : Int) - 8 * ((0 : Nat) : Int) = 56 from rfl] | rw [show (56 : Int) - 8 * ((1 : Nat) : Int) = 48 from rfl] | rw [show (56 : Int) - 8 * ((2 : Nat) : Int) = 40 from rfl] | rw [show (56 : Int) - 8 * ((3 : Nat) : Int) = 32 from rfl] | rw [show (56 : Int) - 8 * ((4 : Nat) : Int) = 24 from rfl] | rw [show (56 : Int) - 8 * ((5 : Nat) : Int) = 16 from rfl] | rw [show (56 : Int) - 8 * ((6 : Nat) : Int) = 8 from rfl] | rw [show (56 : Int) - 8 * ((7 : Nat) : Int) = 0 from rfl]
              go_wp2_with (at_builtin; refine wpList_app rfl (.tmp 26) (.tmp 32) rfl w.heap.size A _ c _ rfl (HO.out.alloc _) (wr.heap.size + 1) (some ⟨wr.heap.size, 0, none⟩) 1 1 [UInt8.ofNat x] rfl (BReads.one _ _ _ (by have := HXV.out; simp [Nat.mod_eq_of_lt hx]; omega)) _ _ rfl HT.out (by omega) (by simp; exact Nat.le_succ_of_le hb.size) ?_; intro A1 c1 w1 ho1 hg1 _)
              go_roundw
              case rel => exact ⟨_, A1, c1, hlt, rfl, rfl, ho1, below_app (hb.alloc hb.size _) hg1 (HO.out.alloc _) (Nat.le_refl _) (by simp; exact Nat.le_succ_of_le hb.size)⟩
              case measure => simp [intOf]
          · obtain rfl : k = 8 := by omega
            have HO := Lib.hid ho
            clear ho
            rw [show (56 : Int) - 8 * ((8 : Nat) : Int) = -8 from rfl]
            go_wp2
            go_ret
            exact ⟨A, c, by rw [HLN.out]; rfl, by rw [HLN.out, HB.out]; exact HO.out, hb⟩
set_option maxRecDepth 100000 in
set_option maxHeartbeats 4000000 in
theorem rtext_v (ds : List Nat) (w : World) (hl : ds.length = 32) (hb : ∀ x ∈ ds, x < 256) :
    Calls Try.prog 26 #[.agg (ds.map fun x : Nat => Value.int .u8 (x : Int)).toArray] w fun e w' => e = .returned (.string ⟨(hexL ds).toArray⟩) ∧ Below w.heap.size w w' := by
  have HLN := Lib.hid hl
  have HBD := Lib.hid hb
  clear hl hb
  have D0 := Lib.hid (show Arr .u8 29 (w.alloc (.cells (ds.map fun x : Nat => Value.int .u8 (x : Int)).toArray 29)) w.heap.size ds from Arr.new w _ _ rfl)
  go_enter Try.func26, Try.ntmps26
  go_wp2
  have B1 := Lib.hid ((Below.refl w.heap.size w).alloc (Nat.le_refl _) (.cells (ds.map fun x : Nat => Value.int .u8 (x : Int)).toArray 29))
  go_loopw [3, 4] (fun o i wr => ∃ (k : Nat) (A : Option Addr) (c : Nat), k ≤ 32 ∧ i = .int .i64 (k : Int) ∧ o = .slice A (2 * k) c ∧ BOwn wr (w.heap.size + 1) A (2 * k) c (hexL (ds.take k)) ∧ Arr .u8 29 wr w.heap.size ds ∧ Below w.heap.size w wr) (fun _ i _ => 32 - (intOf i).toNat)
  case atStart => exact ⟨0, none, 0, Nat.zero_le _, rfl, rfl, BOwn.nil_ _ _, D0.out, B1.out⟩
  case round =>
    clear B1 D0
    obtain ⟨k, A, c, hk, rfl, rfl, ho, hd, hb⟩ := hrel
    by_cases hlt : k < 32
    · have d1 := dec_lt hlt
      have hkl : k < ds.length := by rw [HLN.out]; exact hlt
      obtain ⟨x, hx⟩ : ∃ x, ds[k]? = some x := ⟨_, List.getElem?_eq_getElem hkl⟩
      have hxb : x < 256 := HBD.out x (List.mem_of_getElem? hx)
      have HT := Lib.hid (show hexL (ds.take k) ++ [sign8 (x / 16), sign8 (x % 16)] = hexL (ds.take (k + 1)) by
        rw [List.take_succ_eq_append_getElem hkl, hexL_snoc]
        have := (List.getElem?_eq_some_iff.1 hx).2
        rw [this])
      have HCX := Lib.hid (Arr.cell hd hx)
      obtain ⟨y, hy⟩ : ∃ y, x / 16 = y := ⟨_, rfl⟩
      obtain ⟨z, hz⟩ : ∃ z, x % 16 = z := ⟨_, rfl⟩
      have e1 : (x : Int) / 16 = (y : Int) := by omega
      have e2 : (x : Int).tmod 16 = (z : Int) := by rw [Int.tmod_eq_emod_of_nonneg (by omega)]; omega
      have e3 : IntKind.u8.wrap (y : Int) = (y : Int) := by rw [IntKind.wrap_u8']; omega
      have h1 : ∀ V : World, (Instr.index 9 (.string { data := #[48, 49, 50, 51, 52, 53, 54, 55, 56, 57, 97, 98, 99, 100, 101, 102] }) (.int .u8 (y : Int))).run Try.prog V = .ok (.int .u8 ((sign8 y).toNat : Int)) V := fun V => hex_index y (by omega) V
      have h2 : ∀ V : World, (Instr.index 9 (.string { data := #[48, 49, 50, 51, 52, 53, 54, 55, 56, 57, 97, 98, 99, 100, 101, 102] }) (.int .u8 (z : Int))).run Try.prog V = .ok (.int .u8 ((sign8 z).toNat : Int)) V := fun V => hex_index z (by omega) V
      have k0 : (0 : Int) ≤ (k : Int) := by omega
      have k1 : (k : Int) < 32 := by omega
      rw [hy, hz] at HT
      clear hx hy hz hkl hk
      have HO := Lib.hid ho
      have HD := Lib.hid hd
      have HBW := Lib.hid hb
      clear ho hd hb
      go_wp2
      refine wp_region_tree (SK.one 0 false <| .one 1 false <| .one 2 false <| .one 3 false <| .one 4 false <| .one 5 false <| .one 6 false <| .one 7 false <| .one 8 false <| .one 9 false <| .one 10 false <| .one 11 true <| .one 12 true <| .one 13 false .done) (fun V => V.cell? ⟨w.heap.size, k, none⟩ = some (.int .u8 (x : Int)) ∧ Below V.heap.size V V) (by kernel_rfl) (by kernel_rfl) (by kernel_rfl) (by kernel_rfl) ?_
      have hS : wr.drew.cell? ⟨w.heap.size, k, none⟩ = some (.int .u8 (x : Int)) ∧ Below wr.drew.heap.size wr.drew wr.drew := ⟨HCX.out, Below.refl _ _⟩
      have HOD := Lib.hid HO.out.drew
      have HDD := Lib.hid (show Arr .u8 29 wr.drew w.heap.size ds from HD.out)
      have HBD2 := Lib.hid HBW.out.drew
      have HZ := Lib.hid (show w.heap.size < wr.drew.heap.size from HD.out.lt)
      clear HO HD HBW HCX
      generalize wr.drew = V0 at *
      ((first | (refine TR.val2 (v := ?_) _ (by simp only [List.getElem?_toArray, List.getElem?_cons_zero]; rfl) ?_ ?_ ?_ ?_ ?_; rotate_left; (focus rfl); (focus (intro W hSW; (try dsimp only at hSW); (try (obtain ⟨hS1, hSW⟩ := hSW)); (try (obtain ⟨hS2, hSW⟩ := hSW)); (try (obtain ⟨hS3, hSW⟩ := hSW)); (try (obtain ⟨hS4, hSW⟩ := hSW)); (try (obtain ⟨hS5, hSW⟩ := hSW)); go_simp; (try with_reducible rfl); done)); (focus exact fun _ _ _ h => h); (focus assumption)) | (refine TR.skip _ (by simp only [List.getElem?_toArray, List.getElem?_cons_zero]; rfl) ?_ ?_ ?_ ?_; (focus rfl); (focus exact fun _ _ _ h => h); (focus assumption))); simp only [Act.put, List.setIfInBounds_toArray, List.set_cons_zero, List.set_cons_succ])
      iterate 10 ((first | (refine TR.val2 (v := ?_) _ (by simp only [List.getElem?_toArray, List.getElem?_cons_succ, List.getElem?_cons_zero]; rfl) ?_ ?_ ?_ ?_ ?_; rotate_left; (focus rfl); (focus (intro W hSW; (try dsimp only at hSW); (try (obtain ⟨hS1, hSW⟩ := hSW)); (try (obtain ⟨hS2, hSW⟩ := hSW)); (try (obtain ⟨hS3, hSW⟩ := hSW)); (try (obtain ⟨hS4, hSW⟩ := hSW)); (try (obtain ⟨hS5, hSW⟩ := hSW)); go_simp; (try with_reducible rfl); done)); (focus exact fun _ _ _ h => h); (focus assumption)) | (refine TR.skip _ (by simp only [List.getElem?_toArray, List.getElem?_cons_succ, List.getElem?_cons_zero]; rfl) ?_ ?_ ?_ ?_; (focus rfl); (focus exact fun _ _ _ h => h); (focus assumption))); simp only [Act.put, List.setIfInBounds_toArray, List.set_cons_zero, List.set_cons_succ])
      refine TR.eff _ (by simp only [List.getElem?_toArray, List.getElem?_cons_succ, List.getElem?_cons_zero]; rfl) (by rfl) (fun K hK => ?_); go_simp
      have hSA : (V0.alloc (.cells #[.int .u8 ((sign8 y).toNat : Int), .int .u8 ((sign8 z).toNat : Int)] 5)).cell? ⟨w.heap.size, k, none⟩ = some (.int .u8 (x : Int)) := (cell_old _ _ _ _ HZ.out).trans hS.1
      refine hK.out _ _ ⟨hSA, Below.refl _ _⟩ ?_
      clear hK
      (try simp only [Act.put, List.setIfInBounds_toArray, List.set_cons_zero, List.set_cons_succ])
      refine TR.eff _ (by simp only [List.getElem?_toArray, List.getElem?_cons_succ, List.getElem?_cons_zero]; rfl) (by rfl) (fun K hK => ?_)
      refine wp_app8 (.tmp 9) (.tmp 20) rfl (w.heap.size + 1) A (2 * k) c (hexL (ds.take k)) rfl (HOD.out.alloc _) (V0.heap.size + 1) (some ⟨V0.heap.size, 0, none⟩) 2 2 [sign8 y, sign8 z] rfl (BReads.two (cell_new _ _ _ 0) (cell_new _ _ _ 1)) (2 * (k + 1)) (hexL (ds.take (k + 1))) (by omega) HT.out (by omega) (by have := HZ.out; simp; omega) ?_
      intro A1 c1 w1 ho1 hg1 _
      have D1 := Lib.hid ((HDD.out.alloc (.cells #[.int .u8 ((sign8 y).toNat : Int), .int .u8 ((sign8 z).toNat : Int)] 5)).keep (hg1.block _ (by have := HZ.out; simp; omega) (fun e => by have := (HOD.out.base_le _ e.symm).1; omega)))
      have hSB : w1.cell? ⟨w.heap.size, k, none⟩ = some (.int .u8 (x : Int)) := by
        rw [World.cell?_of_block (hg1.block w.heap.size (by have := HZ.out; simp; omega) (fun e => by have := (HOD.out.base_le _ e.symm).1; omega))]
        exact hSA
      have hS : w1.cell? ⟨w.heap.size, k, none⟩ = some (.int .u8 (x : Int)) ∧ Below w1.heap.size w1 w1 := ⟨hSB, Below.refl _ _⟩
      refine hK.out _ _ hS ?_
      clear hK
      (try simp only [Act.put, List.setIfInBounds_toArray, List.set_cons_zero, List.set_cons_succ])
      iterate 1 ((first | (refine TR.val2 (v := ?_) _ (by simp only [List.getElem?_toArray, List.getElem?_cons_succ, List.getElem?_cons_zero]; rfl) ?_ ?_ ?_ ?_ ?_; rotate_left; (focus rfl); (focus (intro W hSW; (try dsimp only at hSW); (try (obtain ⟨hS1, hSW⟩ := hSW)); (try (obtain ⟨hS2, hSW⟩ := hSW)); (try (obtain ⟨hS3, hSW⟩ := hSW)); (try (obtain ⟨hS4, hSW⟩ := hSW)); (try (obtain ⟨hS5, hSW⟩ := hSW)); go_simp; (try with_reducible rfl); done)); (focus exact fun _ _ _ h => h); (focus assumption)) | (refine TR.skip _ (by simp only [List.getElem?_toArray, List.getElem?_cons_succ, List.getElem?_cons_zero]; rfl) ?_ ?_ ?_ ?_; (focus rfl); (focus exact fun _ _ _ h => h); (focus assumption))); simp only [Act.put, List.setIfInBounds_toArray, List.set_cons_zero, List.set_cons_succ])
      refine TR.done ?_
      have BW := Lib.hid (below_app (B := w.heap.size) (HBD2.out.alloc HBD2.out.size _) hg1 (HOD.out.alloc _) (Nat.le_succ _) (by have := HZ.out; simp; omega))
      go_wp2
      go_roundw
      case rel => exact ⟨k + 1, A1, c1, hlt, by go_num, rfl, ho1, D1.out, BW.out⟩
      case measure => simp [intOf]; omega
    · obtain rfl : k = 32 := by omega
      have HT := Lib.hid (show ds.take 32 = ds by rw [List.take_of_length_le (by rw [HLN.out]; exact Nat.le_refl _)])
      rw [HT.out] at ho
      have hs := run_str (c := c) ho.reads
      go_wp2
      go_ret
      exact ⟨rfl, hb⟩
end Go.Proofs.Ytlbiinkidecfbaa
