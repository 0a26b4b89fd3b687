/-
  Paths: Copied.
-/
import Derived.Test.YtgidngnlmijhhaaDoorPathF
import Derived.Test.YtgidngnlmijhhaaDoorSlot
namespace Go.Proofs.YtgidngnlmijhhaaDoor
open Go.RowKit
theorem marked_len {s q : Bl} {d n : Nat} (h : markedL s = some (q, d, n)) : q.length ≤ s.length := by
  rw [marked_eq] at h
  split at h
  · simp only [Option.some.injEq, Prod.mk.injEq] at h
    obtain ⟨rfl, _, _⟩ := h
    have h1 := mR_len s
    unfold mA
    rw [trim_lib]
    have h2 : (mQ s).length ≤ (mR s).length := by unfold mQ; rw [List.length_take]; omega
    split
    · rw [List.length_take]; omega
    · omega
  · cases h
theorem base_len (l : Bl) : (folderL l).length ≤ l.length ∧ (baseL l).length ≤ l.length ∧ (stemB (baseL l)).length ≤ l.length ∧ (endB (baseL l)).length ≤ l.length := by
  have e := congrArg List.length (stem_end (baseL l))
  rw [List.length_append] at e
  by_cases hm : (47 : UInt8) ∈ l
  · have := congrArg List.length ((folder_base l).1 hm)
    simp only [List.length_append, List.length_singleton] at this
    omega
  · obtain ⟨e1, e2⟩ := (folder_base l).2 hm
    rw [e1]
    rw [e2] at e ⊢
    simp only [List.length_nil]
    omega
/-- What Copied makes of one way to take a mark away. -/
def resV (r : Option (Bl × Nat × Nat)) : Value := .tuple #[.string (st (r.getD ([], 0, 0)).1), .int .i64 ((r.getD ([], 0, 0)).2.1 : Int), .int .i64 ((r.getD ([], 0, 0)).2.2 : Int), .bool r.isSome]
set_option maxRecDepth 100000 in
set_option maxHeartbeats 2000000 in
theorem copied_v (l : Bl) (w : World) (he : Env w) : Calls Tryd.prog 14 #[.string (st l)] w fun e w' => e = .returned (resV (copiedL l)) ∧ Below w.heap.size w w' := by
  have HI2 := Lib.hid (show (Tryd.prog.info? 43).map (·.size) = some 2 by kernel_rfl)
  have CV := check_v l w he
  obtain ⟨k, hk⟩ : ∃ k, checkL l = k := ⟨_, rfl⟩
  have HK := Lib.hid hk
  rw [hk] at CV
  clear hk
  go_enter Tryd.func14, Tryd.ntmps14
  go_wp2_with fail
  refine CV.mono ?_
  rintro e w1 ⟨rfl, b1⟩
  have E1 := Lib.hid (he.below b1)
  have B1 := Lib.hid b1
  clear b1 CV
  by_cases h : k = 0
  case neg =>
    have HS := Lib.hid (show copiedL l = none by unfold copiedL; rw [if_pos (by rw [HK.out]; exact h)])
    have d1 : ((k : Int) != 0) = true := by simp; omega
    clear h
    go_wp2_with fail
    go_returns
    exact ⟨by rw [HS.out]; rfl, B1.out⟩
  subst h
  have d1 : (((0 : Nat) : Int) != 0) = false := rfl
  have HC := Lib.hid (show copiedL l = match tryL l (stemB (baseL l)) (endB (baseL l)) with | some r => some r | none => tryL l (baseL l) [] by unfold copiedL; rw [if_neg (by rw [HK.out]; simp)]; rfl)
  have hl := check_len HK.out
  have SV := Lib.hid (fun w => split_v l w (by omega))
  have EV := Lib.hid (fun w => ending_v l w (by omega))
  have HL := Lib.hid (base_len l)
  have HTR := Lib.hid (show ∀ X Y, tryL l X Y = match markedL X with | none => none | some (q, d, n) => if (copyL (joinF (folderL l) (q ++ Y)) d n).2 = 0 ∧ (copyL (joinF (folderL l) (q ++ Y)) d n).1 = l then some (joinF (folderL l) (q ++ Y), d, n) else none from fun _ _ => rfl)
  obtain ⟨f, hf⟩ : ∃ x, folderL l = x := ⟨_, rfl⟩
  obtain ⟨b, hb⟩ : ∃ x, baseL l = x := ⟨_, rfl⟩
  rw [hf, hb] at HL SV
  rw [hb] at EV HC
  rw [hf] at HTR
  clear hf hb
  obtain ⟨s, hs⟩ : ∃ x, stemB b = x := ⟨_, rfl⟩
  obtain ⟨y, hy⟩ : ∃ x, endB b = x := ⟨_, rfl⟩
  rw [hs, hy] at HL EV HC
  clear hs hy
  go_wp2_with fail
  refine (SV.out w1).mono ?_
  rintro e w2 ⟨rfl, b2⟩
  have B2 := Lib.hid (B1.out.trans (b2.mono B1.out.size))
  have E2 := Lib.hid (E1.out.below b2)
  clear b2 B1 E1
  go_wp2_with fail
  refine (EV.out w2).mono ?_
  rintro e w3 ⟨rfl, b3⟩
  have B3 := Lib.hid (B2.out.trans (b3.mono B2.out.size))
  have E3 := Lib.hid (E2.out.below b3)
  clear b3 B2 E2
  go_wp2_with fail
  have B4 := Lib.hid (B3.out.alloc B3.out.size (.cells #[.string (st s), .string (st y), .string (st b), .string (⟨#[]⟩ : ByteArray)] 43))
  have E4 := Lib.hid (E3.out.below ((Below.refl w3.heap.size w3).alloc (Nat.le_refl _) (.cells #[.string (st s), .string (st y), .string (st b), .string (⟨#[]⟩ : ByteArray)] 43)))
  have H4 := Lib.hid (show ∀ V, Below (w3.heap.size + 1) (w3.alloc (.cells #[.string (st s), .string (st y), .string (st b), .string (⟨#[]⟩ : ByteArray)] 43)) V → ∀ j v, ([.string (st s), .string (st y), .string (st b), .string (⟨#[]⟩ : ByteArray)] : List Value)[j]? = some v → V.cell? ⟨w3.heap.size, j, none⟩ = some v from fun V hV j v hv => (hV.cell (Nat.lt_succ_self _)).trans (by rw [World.cell?_alloc_at _ _ _ _ rfl]; simpa using hv))
  have hz4 : w3.heap.size + 1 ≤ (w3.alloc (.cells #[.string (st s), .string (st y), .string (st b), .string (⟨#[]⟩ : ByteArray)] 43)).heap.size := by simp
  have HW := Lib.hid B3.out.size
  have RF := Lib.hid (Below.refl (w3.heap.size + 1) (w3.alloc (.cells #[.string (st s), .string (st y), .string (st b), .string (⟨#[]⟩ : ByteArray)] 43)))
  clear B3 E3
  generalize w3.alloc (.cells #[.string (st s), .string (st y), .string (st b), .string (⟨#[]⟩ : ByteArray)] 43) = w4 at *
  generalize w3.heap.size = g at *
  go_loopw [39] (fun i V => ∃ k : Nat, k ≤ 2 ∧ i = .int .i64 (k : Int) ∧ (1 ≤ k → tryL l s y = none) ∧ (2 ≤ k → tryL l b [] = none) ∧ Below (g + 1) w4 V ∧ Env V) (fun i _ => 2 - (intOf i).toNat)
  case atStart => exact ⟨0, by omega, rfl, by omega, by omega, RF.out, E4.out⟩
  case round =>
    obtain ⟨k, hk, rfl, t1, t2, hb, hev⟩ := hrel
    have HT1 := Lib.hid t1
    have HT2 := Lib.hid t2
    have HB := Lib.hid hb
    have hzr : g + 1 ≤ wr.heap.size := by have := hb.size; omega
    have HBW := Lib.hid (show Below w.heap.size w wr from B4.out.trans (hb.mono (by have := HW.out; omega)))
    have HEW := Lib.hid hev
    clear t1 t2 hb hev
    rcases (show k = 0 ∨ k = 1 ∨ k = 2 by omega) with rfl | rfl | rfl
    · have c0 := H4.out wr HB.out 0 _ rfl
      have c1 := H4.out wr HB.out 1 _ rfl
      have HTX := Lib.hid (HTR.out s y)
      have HDONE : Hid (∀ r, tryL l s y = some r → copiedL l = some r) := Lib.hid fun r hr => by rw [HC.out, hr]
      have HNX : Hid (tryL l s y = none → (1 ≤ 0 + 1 → tryL l s y = none) ∧ (2 ≤ 0 + 1 → tryL l b [] = none)) := Lib.hid fun h => ⟨fun _ => h, fun _ => (by omega)⟩
      go_upto_region 8 with fail
      have HB1 := Lib.hid (HB.out.alloc hzr (.cells #[.string (st s), .string (st y)] 43))
      have HBW1 := Lib.hid (HBW.out.alloc HBW.out.size (.cells #[.string (st s), .string (st y)] 43))
      have HEW1 := Lib.hid (HEW.out.below ((Below.refl wr.heap.size wr).alloc (Nat.le_refl _) (.cells #[.string (st s), .string (st y)] 43)))
      have HX1 := Lib.hid (show ∀ V, Below (wr.heap.size + 1) (wr.alloc (.cells #[.string (st s), .string (st y)] 43)) V → V.cell? ⟨wr.heap.size, 0, none⟩ = some (.string (st s)) ∧ V.cell? ⟨wr.heap.size, 1, none⟩ = some (.string (st y)) from fun V hV => ⟨(hV.cell (Nat.lt_succ_self _)).trans (World.cell?_alloc_at _ _ _ _ rfl), (hV.cell (Nat.lt_succ_self _)).trans (World.cell?_alloc_at _ _ _ _ rfl)⟩)
      have hz1 : wr.heap.size + 1 ≤ (wr.alloc (.cells #[.string (st s), .string (st y)] 43)).heap.size := by simp
      have RF1 := Lib.hid (Below.refl (wr.heap.size + 1) (wr.alloc (.cells #[.string (st s), .string (st y)] 43)))
      have hzg : g + 1 ≤ (wr.alloc (.cells #[.string (st s), .string (st y)] 43)).heap.size := by simp; omega
      clear HB HBW HEW c0 c1
      generalize wr.alloc (.cells #[.string (st s), .string (st y)] 43) = v1 at *
      generalize wr.heap.size = gx at *
      have x0 := (HX1.out v1 RF1.out).1
      have MV := marked_v s v1 (by have := HL.out; omega)
      have HMQ := Lib.hid (fun q d n (h : markedL s = some (q, d, n)) => marked_len h)
      obtain ⟨mk, hmk⟩ : ∃ mk, markedL s = mk := ⟨_, rfl⟩
      rw [hmk] at MV HTX HMQ
      clear hmk
      cases mk with
      | none =>
        simp only [Option.getD_none, Option.isSome_none] at MV
        go_wp2_with fail
        refine MV.mono ?_
        rintro e v2 ⟨rfl, b2⟩
        have HB2 := Lib.hid (HB1.out.trans (b2.mono hzg))
        have HBW2 := Lib.hid (HBW1.out.trans (b2.mono HBW1.out.size))
        have HEW2 := Lib.hid (HEW1.out.below b2)
        have x1 := (HX1.out v2 (b2.mono hz1)).2
        have hz2 := b2.size
        clear b2 MV x0 HB1 HBW1 HEW1
        have HN := Lib.hid (HNX.out HTX.out)
        go_wp2_with fail
        go_roundw
        case rel => exact ⟨0 + 1, by omega, by go_num, HN.out.1, HN.out.2, HB2.out, HEW2.out⟩
        case measure => simp [intOf]
      | some mk =>
      obtain ⟨q, dd, nn⟩ := mk
      simp only [Option.getD_some, Option.isSome_some] at MV
      go_wp2_with fail
      refine MV.mono ?_
      rintro e v2 ⟨rfl, b2⟩
      have HB2 := Lib.hid (HB1.out.trans (b2.mono hzg))
      have HBW2 := Lib.hid (HBW1.out.trans (b2.mono HBW1.out.size))
      have HEW2 := Lib.hid (HEW1.out.below b2)
      have x1 := (HX1.out v2 (b2.mono hz1)).2
      have hz2 := b2.size
      clear b2 MV x0 HB1 HBW1 HEW1
      (try simp only at HTX)
      have hql := HMQ.out q dd nn rfl
      have u0 : (st q).size ≤ 1000 := by rw [st_size]; have := HL.out; omega
      have u1 : (st y).size ≤ 1000 := by rw [st_size]; have := HL.out; omega
      have g1 : st q ++ (st y) = st (q ++ y) := st_app q y
      have u2 : (st (q ++ y)).size ≤ 1000 := by rw [st_size, List.length_append]; have := HL.out; omega
      have u3 : (st f).size ≤ 1000 := by rw [st_size]; have := HL.out; omega
      have u4 : (st (f ++ [47])).size ≤ 1000 := by rw [st_size, List.length_append]; have := HL.out; simp only [List.length_cons, List.length_nil]; omega
      have HJ := Lib.hid (show joinF f (q ++ y) = if f = [] then q ++ y else f ++ [47] ++ (q ++ y) from rfl)
      obtain ⟨P, hP⟩ : ∃ P, joinF f (q ++ y) = P := ⟨_, rfl⟩
      rw [hP] at HTX HJ
      clear hP
      clear HMQ hql
      generalize q ++ y = qy at *
      have YV := Lib.hid (fun (v : World) (hv : Env v) => copy_v P (dd : Int) (nn : Int) v hv)
      obtain ⟨c, hc⟩ : ∃ c, copyL P (dd : Int) (nn : Int) = c := ⟨_, rfl⟩
      rw [hc] at YV HTX
      clear hc
      obtain ⟨co, ce⟩ := c
      simp only at YV HTX
      by_cases hfe : f = []
      · have q0 : (st f).toList.isEmpty = true := by rw [str_empty]; exact decide_eq_true hfe
        obtain rfl : P = qy := by rw [HJ.out, if_pos hfe]
        clear hfe HJ
        have YV2 := YV.out v2 HEW2.out
        go_wp2_with fail
        refine YV2.mono ?_
        rintro e v3 ⟨rfl, b3⟩
        have HB3 := Lib.hid (HB2.out.trans (b3.mono (by omega)))
        have HBW3 := Lib.hid (HBW2.out.trans (b3.mono HBW2.out.size))
        have HEW3 := Lib.hid (HEW2.out.below b3)
        clear b3 YV2 x1 HB2 HBW2 HEW2
        by_cases hce : ce = 0
        case neg =>
          have d2 : ((ce : Int) == 0) = false := beq_eq_false_iff_ne.2 (by omega)
          have HN := Lib.hid (HNX.out (by rw [HTX.out, if_neg (fun h => hce h.1)]))
          clear hce
          go_wp2_with fail
          go_roundw
          case rel => exact ⟨0 + 1, by omega, by go_num, HN.out.1, HN.out.2, HB3.out, HEW3.out⟩
          case measure => simp [intOf]
        subst hce
        have d2 : (((0 : Nat) : Int) == 0) = true := rfl
        by_cases hcl : co = l
        case neg =>
          have d3 : ((st co).toList == (st l).toList) = false := by rw [st_beq]; exact decide_eq_false hcl
          have HN := Lib.hid (HNX.out (by rw [HTX.out, if_neg (fun h => hcl h.2)]))
          clear hcl
          go_wp2_with fail
          go_roundw
          case rel => exact ⟨0 + 1, by omega, by go_num, HN.out.1, HN.out.2, HB3.out, HEW3.out⟩
          case measure => simp [intOf]
        have d3 : ((st co).toList == (st l).toList) = true := by rw [st_beq]; exact decide_eq_true hcl
        have HN := Lib.hid (HDONE.out _ (by rw [HTX.out, if_pos ⟨rfl, hcl⟩]))
        clear hcl
        go_wp2_with fail
        go_returns
        exact ⟨by rw [HN.out]; rfl, HBW3.out⟩
      · have q0 : (st f).toList.isEmpty = false := by rw [str_empty]; exact decide_eq_false hfe
        have g2 : st f ++ (⟨#[47]⟩ : ByteArray) = st (f ++ [47]) := st_app f [47]
        have g3 : st (f ++ [47]) ++ st qy = st P := by rw [st_app, HJ.out, if_neg hfe]
        clear hfe HJ
        have YV2 := YV.out v2 HEW2.out
        go_wp2_with fail
        refine YV2.mono ?_
        rintro e v3 ⟨rfl, b3⟩
        have HB3 := Lib.hid (HB2.out.trans (b3.mono (by omega)))
        have HBW3 := Lib.hid (HBW2.out.trans (b3.mono HBW2.out.size))
        have HEW3 := Lib.hid (HEW2.out.below b3)
        clear b3 YV2 x1 HB2 HBW2 HEW2
        by_cases hce : ce = 0
        case neg =>
          have d2 : ((ce : Int) == 0) = false := beq_eq_false_iff_ne.2 (by omega)
          have HN := Lib.hid (HNX.out (by rw [HTX.out, if_neg (fun h => hce h.1)]))
          clear hce
          go_wp2_with fail
          go_roundw
          case rel => exact ⟨0 + 1, by omega, by go_num, HN.out.1, HN.out.2, HB3.out, HEW3.out⟩
          case measure => simp [intOf]
        subst hce
        have d2 : (((0 : Nat) : Int) == 0) = true := rfl
        by_cases hcl : co = l
        case neg =>
          have d3 : ((st co).toList == (st l).toList) = false := by rw [st_beq]; exact decide_eq_false hcl
          have HN := Lib.hid (HNX.out (by rw [HTX.out, if_neg (fun h => hcl h.2)]))
          clear hcl
          go_wp2_with fail
          go_roundw
          case rel => exact ⟨0 + 1, by omega, by go_num, HN.out.1, HN.out.2, HB3.out, HEW3.out⟩
          case measure => simp [intOf]
        have d3 : ((st co).toList == (st l).toList) = true := by rw [st_beq]; exact decide_eq_true hcl
        have HN := Lib.hid (HDONE.out _ (by rw [HTX.out, if_pos ⟨rfl, hcl⟩]))
        clear hcl
        go_wp2_with fail
        go_returns
        exact ⟨by rw [HN.out]; rfl, HBW3.out⟩
    · have c0 := H4.out wr HB.out 2 _ rfl
      have c1 := H4.out wr HB.out 3 _ rfl
      have HTX := Lib.hid (HTR.out b [])
      have HDONE : Hid (∀ r, tryL l b [] = some r → copiedL l = some r) := Lib.hid fun r hr => by rw [HC.out, HT1.out (by omega)]; exact hr
      have HNX : Hid (tryL l b [] = none → (1 ≤ 1 + 1 → tryL l s y = none) ∧ (2 ≤ 1 + 1 → tryL l b [] = none)) := Lib.hid fun h => ⟨fun _ => HT1.out (by omega), fun _ => h⟩
      go_upto_region 8 with fail
      have HB1 := Lib.hid (HB.out.alloc hzr (.cells #[.string (st b), .string (⟨#[]⟩ : ByteArray)] 43))
      have HBW1 := Lib.hid (HBW.out.alloc HBW.out.size (.cells #[.string (st b), .string (⟨#[]⟩ : ByteArray)] 43))
      have HEW1 := Lib.hid (HEW.out.below ((Below.refl wr.heap.size wr).alloc (Nat.le_refl _) (.cells #[.string (st b), .string (⟨#[]⟩ : ByteArray)] 43)))
      have HX1 := Lib.hid (show ∀ V, Below (wr.heap.size + 1) (wr.alloc (.cells #[.string (st b), .string (⟨#[]⟩ : ByteArray)] 43)) V → V.cell? ⟨wr.heap.size, 0, none⟩ = some (.string (st b)) ∧ V.cell? ⟨wr.heap.size, 1, none⟩ = some (.string (⟨#[]⟩ : ByteArray)) from fun V hV => ⟨(hV.cell (Nat.lt_succ_self _)).trans (World.cell?_alloc_at _ _ _ _ rfl), (hV.cell (Nat.lt_succ_self _)).trans (World.cell?_alloc_at _ _ _ _ rfl)⟩)
      have hz1 : wr.heap.size + 1 ≤ (wr.alloc (.cells #[.string (st b), .string (⟨#[]⟩ : ByteArray)] 43)).heap.size := by simp
      have RF1 := Lib.hid (Below.refl (wr.heap.size + 1) (wr.alloc (.cells #[.string (st b), .string (⟨#[]⟩ : ByteArray)] 43)))
      have hzg : g + 1 ≤ (wr.alloc (.cells #[.string (st b), .string (⟨#[]⟩ : ByteArray)] 43)).heap.size := by simp; omega
      clear HB HBW HEW c0 c1
      generalize wr.alloc (.cells #[.string (st b), .string (⟨#[]⟩ : ByteArray)] 43) = v1 at *
      generalize wr.heap.size = gx at *
      have x0 := (HX1.out v1 RF1.out).1
      have MV := marked_v b v1 (by have := HL.out; omega)
      have HMQ := Lib.hid (fun q d n (h : markedL b = some (q, d, n)) => marked_len h)
      obtain ⟨mk, hmk⟩ : ∃ mk, markedL b = mk := ⟨_, rfl⟩
      rw [hmk] at MV HTX HMQ
      clear hmk
      cases mk with
      | none =>
        simp only [Option.getD_none, Option.isSome_none] at MV
        go_wp2_with fail
        refine MV.mono ?_
        rintro e v2 ⟨rfl, b2⟩
        have HB2 := Lib.hid (HB1.out.trans (b2.mono hzg))
        have HBW2 := Lib.hid (HBW1.out.trans (b2.mono HBW1.out.size))
        have HEW2 := Lib.hid (HEW1.out.below b2)
        have x1 := (HX1.out v2 (b2.mono hz1)).2
        have hz2 := b2.size
        clear b2 MV x0 HB1 HBW1 HEW1
        have HN := Lib.hid (HNX.out HTX.out)
        go_wp2_with fail
        go_roundw
        case rel => exact ⟨1 + 1, by omega, by go_num, HN.out.1, HN.out.2, HB2.out, HEW2.out⟩
        case measure => simp [intOf]
      | some mk =>
      obtain ⟨q, dd, nn⟩ := mk
      simp only [Option.getD_some, Option.isSome_some] at MV
      go_wp2_with fail
      refine MV.mono ?_
      rintro e v2 ⟨rfl, b2⟩
      have HB2 := Lib.hid (HB1.out.trans (b2.mono hzg))
      have HBW2 := Lib.hid (HBW1.out.trans (b2.mono HBW1.out.size))
      have HEW2 := Lib.hid (HEW1.out.below b2)
      have x1 := (HX1.out v2 (b2.mono hz1)).2
      have hz2 := b2.size
      clear b2 MV x0 HB1 HBW1 HEW1
      (try simp only at HTX)
      have hql := HMQ.out q dd nn rfl
      have u0 : (st q).size ≤ 1000 := by rw [st_size]; have := HL.out; omega
      have u1 : (⟨#[]⟩ : ByteArray).size ≤ 1000 := by decide
      have g1 : st q ++ (⟨#[]⟩ : ByteArray) = st (q ++ []) := st_app q []
      have u2 : (st (q ++ [])).size ≤ 1000 := by rw [st_size, List.length_append]; have := HL.out; simp only [List.length_nil]; omega
      have u3 : (st f).size ≤ 1000 := by rw [st_size]; have := HL.out; omega
      have u4 : (st (f ++ [47])).size ≤ 1000 := by rw [st_size, List.length_append]; have := HL.out; simp only [List.length_cons, List.length_nil]; omega
      have HJ := Lib.hid (show joinF f (q ++ []) = if f = [] then q ++ [] else f ++ [47] ++ (q ++ []) from rfl)
      obtain ⟨P, hP⟩ : ∃ P, joinF f (q ++ []) = P := ⟨_, rfl⟩
      rw [hP] at HTX HJ
      clear hP
      clear HMQ hql
      generalize q ++ [] = qy at *
      have YV := Lib.hid (fun (v : World) (hv : Env v) => copy_v P (dd : Int) (nn : Int) v hv)
      obtain ⟨c, hc⟩ : ∃ c, copyL P (dd : Int) (nn : Int) = c := ⟨_, rfl⟩
      rw [hc] at YV HTX
      clear hc
      obtain ⟨co, ce⟩ := c
      simp only at YV HTX
      by_cases hfe : f = []
      · have q0 : (st f).toList.isEmpty = true := by rw [str_empty]; exact decide_eq_true hfe
        obtain rfl : P = qy := by rw [HJ.out, if_pos hfe]
        clear hfe HJ
        have YV2 := YV.out v2 HEW2.out
        go_wp2_with fail
        refine YV2.mono ?_
        rintro e v3 ⟨rfl, b3⟩
        have HB3 := Lib.hid (HB2.out.trans (b3.mono (by omega)))
        have HBW3 := Lib.hid (HBW2.out.trans (b3.mono HBW2.out.size))
        have HEW3 := Lib.hid (HEW2.out.below b3)
        clear b3 YV2 x1 HB2 HBW2 HEW2
        by_cases hce : ce = 0
        case neg =>
          have d2 : ((ce : Int) == 0) = false := beq_eq_false_iff_ne.2 (by omega)
          have HN := Lib.hid (HNX.out (by rw [HTX.out, if_neg (fun h => hce h.1)]))
          clear hce
          go_wp2_with fail
          go_roundw
          case rel => exact ⟨1 + 1, by omega, by go_num, HN.out.1, HN.out.2, HB3.out, HEW3.out⟩
          case measure => simp [intOf]
        subst hce
        have d2 : (((0 : Nat) : Int) == 0) = true := rfl
        by_cases hcl : co = l
        case neg =>
          have d3 : ((st co).toList == (st l).toList) = false := by rw [st_beq]; exact decide_eq_false hcl
          have HN := Lib.hid (HNX.out (by rw [HTX.out, if_neg (fun h => hcl h.2)]))
          clear hcl
          go_wp2_with fail
          go_roundw
          case rel => exact ⟨1 + 1, by omega, by go_num, HN.out.1, HN.out.2, HB3.out, HEW3.out⟩
          case measure => simp [intOf]
        have d3 : ((st co).toList == (st l).toList) = true := by rw [st_beq]; exact decide_eq_true hcl
        have HN := Lib.hid (HDONE.out _ (by rw [HTX.out, if_pos ⟨rfl, hcl⟩]))
        clear hcl
        go_wp2_with fail
        go_returns
        exact ⟨by rw [HN.out]; rfl, HBW3.out⟩
      · have q0 : (st f).toList.isEmpty = false := by rw [str_empty]; exact decide_eq_false hfe
        have g2 : st f ++ (⟨#[47]⟩ : ByteArray) = st (f ++ [47]) := st_app f [47]
        have g3 : st (f ++ [47]) ++ st qy = st P := by rw [st_app, HJ.out, if_neg hfe]
        clear hfe HJ
        have YV2 := YV.out v2 HEW2.out
        go_wp2_with fail
        refine YV2.mono ?_
        rintro e v3 ⟨rfl, b3⟩
        have HB3 := Lib.hid (HB2.out.trans (b3.mono (by omega)))
        have HBW3 := Lib.hid (HBW2.out.trans (b3.mono HBW2.out.size))
        have HEW3 := Lib.hid (HEW2.out.below b3)
        clear b3 YV2 x1 HB2 HBW2 HEW2
        by_cases hce : ce = 0
        case neg =>
          have d2 : ((ce : Int) == 0) = false := beq_eq_false_iff_ne.2 (by omega)
          have HN := Lib.hid (HNX.out (by rw [HTX.out, if_neg (fun h => hce h.1)]))
          clear hce
          go_wp2_with fail
          go_roundw
          case rel => exact ⟨1 + 1, by omega, by go_num, HN.out.1, HN.out.2, HB3.out, HEW3.out⟩
          case measure => simp [intOf]
        subst hce
        have d2 : (((0 : Nat) : Int) == 0) = true := rfl
        by_cases hcl : co = l
        case neg =>
          have d3 : ((st co).toList == (st l).toList) = false := by rw [st_beq]; exact decide_eq_false hcl
          have HN := Lib.hid (HNX.out (by rw [HTX.out, if_neg (fun h => hcl h.2)]))
          clear hcl
          go_wp2_with fail
          go_roundw
          case rel => exact ⟨1 + 1, by omega, by go_num, HN.out.1, HN.out.2, HB3.out, HEW3.out⟩
          case measure => simp [intOf]
        have d3 : ((st co).toList == (st l).toList) = true := by rw [st_beq]; exact decide_eq_true hcl
        have HN := Lib.hid (HDONE.out _ (by rw [HTX.out, if_pos ⟨rfl, hcl⟩]))
        clear hcl
        go_wp2_with fail
        go_returns
        exact ⟨by rw [HN.out]; rfl, HBW3.out⟩
    · have HN := Lib.hid (show copiedL l = none by rw [HC.out, HT1.out (by omega)]; exact HT2.out (by omega))
      go_wp2_with fail
      go_returns
      exact ⟨by rw [HN.out]; rfl, HBW.out⟩
end Go.Proofs.YtgidngnlmijhhaaDoor
