/-
  The reference's table: nodes, Nodes.
-/
import Derived.Test.YtohcdnbchidjeaaTabQd
namespace Go.Proofs.Ytohcdnbchidjeaa
open Go.RowKit
def rkAt (L : List KV) (i : Nat) : Nat := match L[i]? with | some y => rk y.1 | none => 0
theorem rkAt_some {L : List KV} {i : Nat} {y : KV} (h : L[i]? = some y) : rkAt L i = rk y.1 := by unfold rkAt; rw [h]
/-- The place of the first greatest rank of the first i. -/
def amax (L : List KV) : Nat → Nat
  | 0 => 0
  | i + 1 => if rkAt L (amax L i) < rkAt L i then i else amax L i
theorem amax_lt (L : List KV) : ∀ i, amax L i ≤ i - 1
  | 0 => Nat.le_refl _
  | i + 1 => by
    have h := amax_lt L i
    unfold amax
    split <;> omega
theorem amax_ge (L : List KV) : ∀ i j, j < i → rkAt L j ≤ rkAt L (amax L i)
  | i + 1, j, h => by
    have h1 := amax_ge L i j
    unfold amax
    split
    · rcases Nat.lt_or_ge j i with h2 | h2
      · have := h1 h2; omega
      · obtain rfl : j = i := by omega
        exact Nat.le_refl _
    · rcases Nat.lt_or_ge j i with h2 | h2
      · exact h1 h2
      · obtain rfl : j = i := by omega
        omega
theorem amax_first (L : List KV) : ∀ i j, j < amax L i → rkAt L j < rkAt L (amax L i)
  | 0, j, h => by simp [amax] at h
  | i + 1, j, h => by
    have e : amax L (i + 1) = if rkAt L (amax L i) < rkAt L i then i else amax L i := rfl
    rw [e] at h ⊢
    by_cases hc : rkAt L (amax L i) < rkAt L i
    · rw [if_pos hc] at h ⊢
      have := amax_ge L i j h
      omega
    · rw [if_neg hc] at h ⊢
      exact amax_first L i j h
theorem amax_root {l r : Tr} {k v : ByteArray} (h : good (.node l k v r)) : amax (Tr.node l k v r).flat (Tr.node l k v r).cnt = l.cnt := by
  have ha := asc_node.1 h.1
  have hm : (Tr.node l k v r).flat[l.cnt]? = some (k, v) := by simp only [Tr.flat]; rw [List.getElem?_append_right (by rw [flat_len]; exact Nat.le_refl _), flat_len]; simp
  have lt1 : ∀ j, j < l.cnt → rkAt (Tr.node l k v r).flat j < rk k := fun j hj => by
    have hjl : j < l.flat.length := by rw [flat_len]; exact hj
    have e : (Tr.node l k v r).flat[j]? = some l.flat[j] := by simp only [Tr.flat]; rw [List.getElem?_append_left hjl]; exact List.getElem?_eq_getElem hjl
    rw [rkAt_some e]
    have hin := List.getElem_mem hjl
    rcases (abv_iff _ _).1 (h.2.1 _ hin) with h1 | h1
    · exact h1
    · have := ha.2.2.1 _ hin
      rw [klt_asymm this] at h1
      exact absurd h1.2 (by simp)
  have lt2 : ∀ j, l.cnt < j → rkAt (Tr.node l k v r).flat j ≤ rk k := fun j hj => by
    unfold rkAt
    split
    · rename_i y hy
      simp only [Tr.flat] at hy
      rw [List.getElem?_append_right (by rw [flat_len]; omega), flat_len, show j - l.cnt = (j - l.cnt - 1) + 1 by omega, List.getElem?_cons_succ] at hy
      rcases (abv_iff _ _).1 (h.2.2.1 _ (List.mem_of_getElem? hy)) with h1 | h1 <;> omega
    · exact Nat.zero_le _
  have e0 := rkAt_some hm
  rcases Nat.lt_trichotomy (amax (Tr.node l k v r).flat (Tr.node l k v r).cnt) l.cnt with h1 | h1 | h1
  · have h2 := amax_ge (Tr.node l k v r).flat (Tr.node l k v r).cnt l.cnt (by simp only [Tr.cnt]; omega)
    have h3 := lt1 _ h1
    rw [e0] at h2
    simp only at h2
    omega
  · exact h1
  · have h2 := amax_first (Tr.node l k v r).flat (Tr.node l k v r).cnt l.cnt h1
    have h3 := lt2 _ h1
    rw [e0] at h2
    simp only at h2
    omega
theorem POwn.one (w : World) (x : P3) : POwn (w.alloc (.cells #[.string x.1, .string x.2.1, .bool x.2.2] 39)) w.heap.size (some ⟨w.heap.size, 0, none⟩) 1 1 [x] :=
  ⟨World.ownsRow_lit w #[.string x.1, .string x.2.1, .bool x.2.2] 1 (Nat.le_refl _) (by decide) rfl, Nat.le_refl _⟩
theorem flat_take (l r : Tr) (k v : ByteArray) : (pvs (Tr.node l k v r).flat).take l.cnt = pvs l.flat := by
  simp only [Tr.flat, pvs, List.map_append, List.map_cons]
  rw [List.take_left' (by rw [List.length_map, flat_len])]
theorem flat_drop (l r : Tr) (k v : ByteArray) : (pvs (Tr.node l k v r).flat).drop (l.cnt + 1) = pvs r.flat := by
  simp only [Tr.flat, pvs, List.map_append, List.map_cons]
  rw [show l.flat.map pv ++ pv (k, v) :: r.flat.map pv = (l.flat.map pv ++ [pv (k, v)]) ++ r.flat.map pv by simp]
  exact List.drop_left' (by simp [flat_len])
set_option maxHeartbeats 8000000 in
set_option maxRecDepth 100000 in
theorem rnodes_v : ∀ (T : Tr) (B : Nat) (A : Option Addr) (n c : Nat) (w : World), good T → (∀ x ∈ T.flat, x.1.size ≤ 140737488355328) → PReads w B A n (pvs T.flat) → B ≤ w.heap.size → n ≤ c → c ≤ 9223372036854775807 → n ≤ 1000000 →
    Calls Try.prog 47 #[.slice A n c] w (SlPost w (pvs T.pre))
  | .nil, B, A, n, c, w, _, _, hr, _, _, _, _ => by
    obtain rfl : n = 0 := by have := hr.len; simpa [pvs, Tr.flat] using this.symm
    have HN := Lib.hid (POwn.nil_ w w.heap.size)
    go_enter Try.func47, Try.ntmps47
    go_wp2
    go_ret
    exact ⟨none, 0, rfl, HN.out, Below.refl _ _⟩
  | .node l k v r, B, A, n, c, w, hg, hsz, hr, hB, hnc, hcm, hn => by
    have hnn : n = l.cnt + r.cnt + 1 := by rw [← hr.len, pvs_len, flat_len]; rfl
    have IHL := fun V A' c' (h1 : PReads V V.heap.size A' l.cnt (pvs l.flat)) (h2 : l.cnt ≤ c') (h3 : c' ≤ 9223372036854775807) => rnodes_v l V.heap.size A' l.cnt c' V ⟨(asc_node.1 hg.1).1, hg.2.2.2.1⟩ (fun x hx => hsz x (by simp [Tr.flat, hx])) h1 (Nat.le_refl _) h2 h3 (by omega)
    have IHR := fun V A' c' (h1 : PReads V V.heap.size A' r.cnt (pvs r.flat)) (h2 : r.cnt ≤ c') (h3 : c' ≤ 9223372036854775807) => rnodes_v r V.heap.size A' r.cnt c' V ⟨(asc_node.1 hg.1).2.1, hg.2.2.2.2⟩ (fun x hx => hsz x (by simp [Tr.flat, hx])) h1 (Nat.le_refl _) h2 h3 (by omega)
    have HL := Lib.hid IHL
    have HRR := Lib.hid IHR
    clear IHL IHR
    have HAM := Lib.hid (amax_root hg)
    have HSZ := Lib.hid (fun i y (h : (Tr.node l k v r).flat[i]? = some y) => hsz y (List.mem_of_getElem? h))
    have HTK := Lib.hid (flat_take l r k v)
    have HDR := Lib.hid (flat_drop l r k v)
    have HCNT := Lib.hid (show (Tr.node l k v r).cnt = n from hnn.symm)
    have HMID := Lib.hid (show (pvs (Tr.node l k v r).flat)[l.cnt]? = some (pv (k, v)) by simp only [Tr.flat, pvs, List.map_append, List.map_cons]; rw [List.getElem?_append_right (by rw [List.length_map, flat_len]; exact Nat.le_refl _), List.length_map, flat_len]; simp)
    have HPRE := Lib.hid (show pvs (Tr.node l k v r).pre = ([pv (k, v)] ++ pvs l.pre) ++ pvs r.pre by simp [Tr.pre, pvs])
    have HNN := Lib.hid hnn
    have HLP := Lib.hid (show (pvs l.pre).length = l.cnt by rw [pvs_len, pre_len])
    have HRP := Lib.hid (show (pvs r.pre).length = r.cnt by rw [pvs_len, pre_len])
    have HFL := Lib.hid (show (Tr.node l k v r).flat.length = n by rw [flat_len]; exact hnn.symm)
    have hn0 : 0 < n := by omega
    have hmn : l.cnt < n := by omega
    obtain ⟨ad, hA, hadB, _⟩ := hr.2 (by omega)
    subst hA
    have HR := Lib.hid hr
    clear hr hg hsz hnn
    generalize (Tr.node l k v r).flat = L at *
    generalize (Tr.node l k v r).pre = PR at *
    have hz : ((n : Int) == 0) = false := by rw [beq_eq_false_iff_ne]; omega
    have hz2 : decide (n = 0) = false := by simp; omega
    go_enter Try.func47, Try.ntmps47
    go_wp2
    go_loopw [3, 4] (fun t i wr => ∃ j : Nat, j ≤ n ∧ i = .int .i64 (j : Int) ∧ t = .int .i64 (amax L j : Int) ∧ Below w.heap.size w wr) (fun _ i _ => n - (intOf i).toNat)
    case atStart => exact ⟨0, Nat.zero_le _, rfl, rfl, Below.refl _ _⟩
    case round =>
      obtain ⟨j, hj, rfl, rfl, hb⟩ := hrel
      have BW := Lib.hid hb
      have HR1 := Lib.hid (Reads.below HR.out (hb.mono hB))
      clear hb
      by_cases hlt : j < n
      · have hta := amax_lt L j
        have HA1 := Lib.hid (show amax L (j + 1) = if rkAt L (amax L j) < rkAt L j then j else amax L j from rfl)
        generalize amax L j = t at *
        have htn : t < n := by omega
        obtain ⟨ad', x, hA', _, hx, d0, _, _⟩ := PReads.at_ HR1.out hlt
        obtain rfl : ad = ad' := by injection hA'
        obtain ⟨y, hy, rfl⟩ := pvs_at hx
        obtain ⟨ad', x, hA', _, hx', e0, _, _⟩ := PReads.at_ HR1.out htn
        obtain rfl : ad = ad' := by injection hA'
        obtain ⟨z, hz', rfl⟩ := pvs_at hx'
        have d0' : wr.cell? (ad.add (j * 3)) = some (.string y.1) := d0
        have e0' : wr.cell? (ad.add (t * 3)) = some (.string z.1) := e0
        have HRK := Lib.hid (fun W => rrank_v y.1 W (by have := HSZ.out _ _ hy; unfold maxLen; omega))
        have HRK' := Lib.hid (fun W => rrank_v z.1 W (by have := HSZ.out _ _ hz'; unfold maxLen; omega))
        have hr1 := rk_lt y.1
        have hr0 := rk_lt z.1
        have HA2 := Lib.hid (show amax L (j + 1) = if rk z.1 < rk y.1 then j else t by rw [HA1.out, rkAt_some hy, rkAt_some hz'])
        have hj0 : (0 : Int) ≤ (j : Int) := by omega
        have hj1 : (j : Int) < (n : Int) := by omega
        have ht0 : (0 : Int) ≤ (t : Int) := by omega
        have ht1 : (t : Int) < (n : Int) := by omega
        clear hx hx' hy hz' d0 e0 hA' HA1
        go_wp2_with fail
        refine wp_region_text [(0, false), (1, false), (2, false), (3, false), (4, false), (6, false), (7, false), (8, false), (9, false), (10, false), (5, true), (11, true), (12, false)] (fun V => V.cell? (ad.add (j * 3)) = some (.string y.1) ∧ V.cell? (ad.add (t * 3)) = some (.string z.1)) (by kernel_rfl) (by kernel_rfl) (by kernel_rfl) (by kernel_rfl) (by kernel_rfl) (fun _ => ?_)
        simp only [outOf, List.getElem?_cons_zero, List.getElem?_cons_succ, Option.getD_some]
        have hS : wr.drew.cell? (ad.add (j * 3)) = some (.string y.1) ∧ wr.drew.cell? (ad.add (t * 3)) = some (.string z.1) := ⟨d0', e0'⟩
        (iterate 10 (refine TW.val2 (v := ?_) ?_ ?_ ?_ ?_ ?_; rotate_left; (focus rfl); (focus (intro W hSW; (try dsimp only at hSW); obtain ⟨hS1, hS2⟩ := hSW; go_simp; (try with_reducible rfl); done)); (focus exact fun _ _ _ h => h); (focus assumption); simp only [Act.put, List.setIfInBounds_toArray, List.set_cons_zero, List.set_cons_succ]))
        refine TW.eff (by rfl) (fun K hK => ?_); go_simp
        refine (HRK.out _).mono ?_
        rintro e _ ⟨rfl, rfl⟩
        go_wp2_with fail; refine hK.out _ _ hS ?_; clear hK; (try simp only [Act.put, List.setIfInBounds_toArray, List.set_cons_zero, List.set_cons_succ])
        refine TW.eff (by rfl) (fun K hK => ?_); go_simp
        refine (HRK'.out _).mono ?_
        rintro e _ ⟨rfl, rfl⟩
        go_wp2_with fail; refine hK.out _ _ hS ?_; clear hK; (try simp only [Act.put, List.setIfInBounds_toArray, List.set_cons_zero, List.set_cons_succ])
        (iterate 1 (refine TW.val2 (v := ?_) ?_ ?_ ?_ ?_ ?_; rotate_left; (focus rfl); (focus (intro W hSW; (try dsimp only at hSW); obtain ⟨hS1, hS2⟩ := hSW; go_simp; (try with_reducible rfl); done)); (focus exact fun _ _ _ h => h); (focus assumption); simp only [Act.put, List.setIfInBounds_toArray, List.set_cons_zero, List.set_cons_succ]))
        refine TW.done ?_
        have BW1 := Lib.hid BW.out.drew
        clear hS d0' e0' BW HR1
        generalize wr.drew = w1 at *
        by_cases hrk : rk z.1 < rk y.1
        · have g1 : decide (rk z.1 < rk y.1) = true := by simpa using hrk
          have HA3 := Lib.hid (show amax L (j + 1) = j by rw [HA2.out, if_pos hrk])
          go_wp2
          go_roundw
          case rel => exact ⟨j + 1, by omega, by go_num, by rw [HA3.out], BW1.out⟩
          case measure => simp [intOf]; omega
        · have g1 : decide (rk z.1 < rk y.1) = false := by simpa using hrk
          have HA3 := Lib.hid (show amax L (j + 1) = t by rw [HA2.out, if_neg hrk])
          go_wp2
          go_roundw
          case rel => exact ⟨j + 1, by omega, by go_num, by rw [HA3.out], BW1.out⟩
          case measure => simp [intOf]; omega
      · obtain rfl : j = n := by omega
        have HAM' := Lib.hid (show amax L j = l.cnt by rw [← HCNT.out]; exact HAM.out)
        rw [HAM'.out]
        clear HAM HAM' HCNT
        obtain ⟨ad', x, hA', _, hx, d0, d1, d2⟩ := PReads.at_ HR1.out hmn
        obtain rfl : ad = ad' := by injection hA'
        obtain rfl : x = pv (k, v) := by rw [HMID.out] at hx; injection hx with hx; exact hx.symm
        generalize l.cnt = m at *
        generalize r.cnt = m' at *
        have hwz : w.heap.size ≤ wr.heap.size := BW.out.size
        have hadw : ad.block < w.heap.size := by omega
        have k0 : wr.cell? (ad.add (m * 3)) = some (.string k) := d0
        have k1 : wr.cell? ⟨(ad.add (m * 3)).block, (ad.add (m * 3)).off + 1, none⟩ = some (.string v) := d1
        have k2 : wr.cell? ⟨(ad.add (m * 3)).block, (ad.add (m * 3)).off + 2, none⟩ = some (.bool false) := d2
        have q0 : ∀ V, Below wr.heap.size wr V → V.cell? (ad.add (m * 3)) = some (.string k) := fun V h => (h.cell (p := ad.add (m * 3)) (by rw [block_of_add]; omega)).trans k0
        have q1 : ∀ V, Below wr.heap.size wr V → V.cell? ⟨(ad.add (m * 3)).block, (ad.add (m * 3)).off + 1, none⟩ = some (.string v) := fun V h => keepC h k1 (by rw [block_of_add]; omega)
        have q2 : ∀ V, Below wr.heap.size wr V → V.cell? ⟨(ad.add (m * 3)).block, (ad.add (m * 3)).off + 2, none⟩ = some (.bool false) := fun V h => keepC h k2 (by rw [block_of_add]; omega)
        clear hx hA' d0 d1 d2 k0 k1 k2
        have hm0 : (0 : Int) ≤ (m : Int) := by omega
        have hm1 : (m : Int) < (j : Int) := by omega
        have hm2 : (m : Int) ≤ (c : Int) := by omega
        have hm3 : (m : Int) + 1 ≤ (j : Int) := by omega
        have hm4 : (m : Int) + 1 ≤ (c : Int) := by omega
        have hm5 : (0 : Int) ≤ (m : Int) + 1 := by omega
        have hm6 : ((m : Int) + 1).toNat = m + 1 := by omega
        have RLO : Hid (∀ V, Below wr.heap.size wr V → PReads V V.heap.size (some ad) m (pvs l.flat)) := Lib.hid fun V h => by
          have := Reads.more (PReads.take (Reads.below HR1.out (h.mono (by omega))) (show m ≤ j by omega)) (show B ≤ V.heap.size by have := h.size; omega)
          rwa [HTK.out] at this
        have RHI : Hid (∀ V, Below wr.heap.size wr V → PReads V V.heap.size (if c = m + 1 then some ad else some (ad.add ((m + 1) * 3))) (j - (m + 1)) (pvs r.flat)) := Lib.hid fun V h => by
          have := Reads.more (PReads.cut (Reads.below HR1.out (h.mono (by omega))) (show m + 1 ≤ j by omega) hnc) (show B ≤ V.heap.size by have := h.size; omega)
          rwa [HDR.out] at this
        obtain rfl : m' = j - (m + 1) := by have := HNN.out; omega
        go_wp2_with fail
        refine wp_region_tree (SK.one 0 false <| .one 1 false <| .one 2 false <| .one 3 false <| .one 5 false <| .one 6 false <| .one 7 false <| .one 10 false <| .one 11 false <| .one 12 false <| .one 13 false <|
          .two 4 (.one 8 true <| .one 9 true <| .one 14 true <| .one 15 true <| .one 16 false .done) 8 (.one 4 true <| .one 9 true <| .one 14 true <| .one 15 true <| .one 16 false .done)) (fun V => Below wr.heap.size wr V) (by kernel_rfl) (by kernel_rfl) (by kernel_rfl) (by kernel_rfl) ?_
        have hS := (Below.refl wr.heap.size wr).drew
        refine TR.val2 (v := ?_) _ (by simp only [List.getElem?_toArray, List.getElem?_cons_zero]; rfl) ?_ ?_ ?_ ?_ ?_; rotate_left; (focus rfl); (focus (intro W hSW; (try dsimp only at hSW); go_simp; (try with_reducible rfl); done)); (focus exact fun _ _ _ h => h); (focus exact hS); simp only [Act.put, List.setIfInBounds_toArray, List.set_cons_zero, List.set_cons_succ]
        iterate 8 ((first | (refine TR.val2 (v := ?_) _ (by simp only [List.getElem?_toArray, List.getElem?_cons_succ, List.getElem?_cons_zero]; rfl) ?_ ?_ ?_ ?_ ?_; rotate_left; (focus rfl); (focus (intro W hSW; (try dsimp only at hSW); go_simp; (try with_reducible rfl); done)); (focus exact fun _ _ _ h => h); (focus assumption)) | (refine TR.skip _ (by simp only [List.getElem?_toArray, List.getElem?_cons_succ, List.getElem?_cons_zero]; rfl) ?_ ?_ ?_ ?_; (focus rfl); (focus exact fun _ _ _ h => h); (focus assumption))); simp only [Act.put, List.setIfInBounds_toArray, List.set_cons_zero, List.set_cons_succ])
        have hwr : IntKind.i64.wrap ((m : Int) + 1) = (m : Int) + 1 := IntWalk.i64_in _ (by omega)
        iterate 1 ((first | (refine TR.val2 (v := ?_) _ (by simp only [List.getElem?_toArray, List.getElem?_cons_succ, List.getElem?_cons_zero]; rfl) ?_ ?_ ?_ ?_ ?_; rotate_left; (focus rfl); (focus (intro W hSW; (try dsimp only at hSW); go_simp; (try with_reducible rfl); done)); (focus exact fun _ _ _ h => h); (focus assumption)) | (refine TR.skip _ (by simp only [List.getElem?_toArray, List.getElem?_cons_succ, List.getElem?_cons_zero]; rfl) ?_ ?_ ?_ ?_; (focus rfl); (focus exact fun _ _ _ h => h); (focus assumption))); simp only [Act.put, List.setIfInBounds_toArray, List.set_cons_zero, List.set_cons_succ])
        clear hwr
        iterate 1 ((first | (refine TR.val2 (v := ?_) _ (by simp only [List.getElem?_toArray, List.getElem?_cons_succ, List.getElem?_cons_zero]; rfl) ?_ ?_ ?_ ?_ ?_; rotate_left; (focus rfl); (focus (intro W hSW; (try dsimp only at hSW); go_simp; (try with_reducible rfl); done)); (focus exact fun _ _ _ h => h); (focus assumption)) | (refine TR.skip _ (by simp only [List.getElem?_toArray, List.getElem?_cons_succ, List.getElem?_cons_zero]; rfl) ?_ ?_ ?_ ?_; (focus rfl); (focus exact fun _ _ _ h => h); (focus assumption))); simp only [Act.put, List.setIfInBounds_toArray, List.set_cons_zero, List.set_cons_succ])
        clear q0 q1 q2
        generalize (if c = m + 1 then some ad else some (ad.add ((m + 1) * 3))) = A2 at *
        generalize wr.drew = w2 at *
        have hmc : m ≤ c := by omega
        have HS := Lib.hid hS
        clear hS
        refine TR.two _ _ (by simp only [List.getElem?_toArray, List.getElem?_cons_succ, List.getElem?_cons_zero]; rfl) (by simp only [List.getElem?_toArray, List.getElem?_cons_succ, List.getElem?_cons_zero]; rfl) (by rfl) (by rfl) (fun K hK => ?_) (fun K hK => ?_)
        · go_simp
          have CSA := Lib.hid (HS.out.alloc HS.out.size (.cells #[.string k, .string v, .bool false] 39))
          refine hK.out _ _ CSA.out ?_
          clear hK
          have EA := Lib.hid ((POwn.one w2 (pv (k, v))).down HS.out.size)
          refine TR.eff _ (by simp only [List.getElem?_toArray, List.getElem?_cons_succ, List.getElem?_cons_zero]; rfl) (by rfl) (fun K hK => ?_); go_simp
          refine (HL.out _ (some ad) c (RLO.out _ CSA.out) hmc hcm).mono ?_
          rintro e w3 ⟨A3, c3, he, ho3, hb3⟩
          rw [HLP.out] at he ho3
          subst he
          have CS9 := Lib.hid (btwo CSA.out hb3)
          have E9 : Hid (POwn w3 wr.heap.size (some ⟨w2.heap.size, 0, none⟩) 1 1 [pv (k, v)]) := Lib.hid (EA.out.below hb3)
          have R9 := Lib.hid ho3.reads
          clear hb3 ho3
          go_wp2_with fail; refine hK.out _ _ CS9.out ?_; clear hK; (try simp only [Act.put, List.setIfInBounds_toArray, List.set_cons_zero, List.set_cons_succ])
          refine TR.eff _ (by simp only [List.getElem?_toArray, List.getElem?_cons_succ, List.getElem?_cons_zero]; rfl) (by rfl) (fun K hK => ?_)
          refine wp_papp (.tmp 32) (.tmp 36) rfl wr.heap.size (some ⟨w2.heap.size, 0, none⟩) 1 1 [pv (k, v)] rfl E9.out w3.heap.size A3 m c3 (pvs l.pre) rfl R9.out (by omega) CS9.out.size ?_
          intro A4 c4 w4 ho4 hg4
          have CS4 := Lib.hid (below_papp CS9.out hg4 E9.out (Nat.le_refl _) CS9.out.size)
          have HO4 := Lib.hid ho4
          refine hK.out _ _ CS4.out ?_
          clear hK ho4 hg4
          (try simp only [Act.put, List.setIfInBounds_toArray, List.set_cons_zero, List.set_cons_succ])
          refine TR.eff _ (by simp only [List.getElem?_toArray, List.getElem?_cons_succ, List.getElem?_cons_zero]; rfl) (by rfl) (fun K hK => ?_); go_simp
          refine (HRR.out w4 A2 (c - (m + 1)) (RHI.out w4 CS4.out) (by omega) (by omega)).mono ?_
          rintro e w5 ⟨A5, c5, he, ho5, hb5⟩
          rw [HRP.out] at he ho5
          subst he
          have CS5 := Lib.hid (btwo CS4.out hb5)
          have HO5 := Lib.hid (HO4.out.below hb5)
          have R5 := Lib.hid ho5.reads
          clear hb5 ho5
          go_wp2_with fail; refine hK.out _ _ CS5.out ?_; clear hK; (try simp only [Act.put, List.setIfInBounds_toArray, List.set_cons_zero, List.set_cons_succ])
          refine TR.eff _ (by simp only [List.getElem?_toArray, List.getElem?_cons_succ, List.getElem?_cons_zero]; rfl) (by rfl) (fun K hK => ?_)
          refine wp_papp (.tmp 37) (.tmp 42) rfl wr.heap.size A4 (1 + m) c4 ([pv (k, v)] ++ pvs l.pre) rfl HO5.out w5.heap.size A5 (j - (m + 1)) c5 (pvs r.pre) rfl R5.out (by omega) CS5.out.size ?_
          intro A6 c6 w6 ho6 hg6
          have CS6 := Lib.hid (below_papp CS5.out hg6 HO5.out (Nat.le_refl _) CS5.out.size)
          have HO6 := Lib.hid ho6
          refine hK.out _ _ CS6.out ?_
          clear hK ho6 hg6
          (try simp only [Act.put, List.setIfInBounds_toArray, List.set_cons_zero, List.set_cons_succ])
          have hS := CS6.out
          iterate 1 ((first | (refine TR.val2 (v := ?_) _ (by simp only [List.getElem?_toArray, List.getElem?_cons_succ, List.getElem?_cons_zero]; rfl) ?_ ?_ ?_ ?_ ?_; rotate_left; (focus rfl); (focus (intro W hSW; (try dsimp only at hSW); go_simp; (try with_reducible rfl); done)); (focus exact fun _ _ _ h => h); (focus assumption)) | (refine TR.skip _ (by simp only [List.getElem?_toArray, List.getElem?_cons_succ, List.getElem?_cons_zero]; rfl) ?_ ?_ ?_ ?_; (focus rfl); (focus exact fun _ _ _ h => h); (focus assumption))); simp only [Act.put, List.setIfInBounds_toArray, List.set_cons_zero, List.set_cons_succ])
          refine TR.done ?_
          clear hS
          go_wp2
          go_ret
          have hlen : (pvs PR).length = 1 + m + (j - (m + 1)) := by rw [HPRE.out]; simp only [List.length_append, HLP.out, HRP.out, List.length_singleton]
          refine ⟨A6, c6, by rw [hlen]; rfl, ?_, BW.out.trans (CS6.out.mono hwz)⟩
          rw [hlen, HPRE.out]
          exact HO6.out.down hwz
        · go_simp
          refine (HL.out _ (some ad) c (RLO.out _ HS.out) hmc hcm).mono ?_
          rintro e w3 ⟨A3, c3, he, ho3, hb3⟩
          rw [HLP.out] at he ho3
          subst he
          have CS3 := Lib.hid (btwo HS.out hb3)
          have HO3 := Lib.hid ho3
          clear hb3 ho3
          go_wp2_with fail; refine hK.out _ _ CS3.out ?_; clear hK; (try simp only [Act.put, List.setIfInBounds_toArray, List.set_cons_zero, List.set_cons_succ])
          refine TR.eff _ (by simp only [List.getElem?_toArray, List.getElem?_cons_succ, List.getElem?_cons_zero]; rfl) (by rfl) (fun K hK => ?_); go_simp
          have CS9 := Lib.hid (CS3.out.alloc CS3.out.size (.cells #[.string k, .string v, .bool false] 39))
          refine hK.out _ _ CS9.out ?_
          clear hK
          have E9 : Hid (POwn (w3.alloc (.cells #[.string k, .string v, .bool false] 39)) wr.heap.size (some ⟨w3.heap.size, 0, none⟩) 1 1 [pv (k, v)]) := Lib.hid ((POwn.one w3 (pv (k, v))).down CS3.out.size)
          have R9 := Lib.hid (HO3.out.alloc (.cells #[.string k, .string v, .bool false] 39)).reads
          refine TR.eff _ (by simp only [List.getElem?_toArray, List.getElem?_cons_succ, List.getElem?_cons_zero]; rfl) (by rfl) (fun K hK => ?_)
          refine wp_papp (.tmp 32) (.tmp 36) rfl wr.heap.size (some ⟨w3.heap.size, 0, none⟩) 1 1 [pv (k, v)] rfl E9.out (w3.alloc (.cells #[.string k, .string v, .bool false] 39)).heap.size A3 m c3 (pvs l.pre) rfl R9.out (by omega) CS9.out.size ?_
          intro A4 c4 w4 ho4 hg4
          have CS4 := Lib.hid (below_papp CS9.out hg4 E9.out (Nat.le_refl _) CS9.out.size)
          have HO4 := Lib.hid ho4
          refine hK.out _ _ CS4.out ?_
          clear hK ho4 hg4
          (try simp only [Act.put, List.setIfInBounds_toArray, List.set_cons_zero, List.set_cons_succ])
          refine TR.eff _ (by simp only [List.getElem?_toArray, List.getElem?_cons_succ, List.getElem?_cons_zero]; rfl) (by rfl) (fun K hK => ?_); go_simp
          refine (HRR.out w4 A2 (c - (m + 1)) (RHI.out w4 CS4.out) (by omega) (by omega)).mono ?_
          rintro e w5 ⟨A5, c5, he, ho5, hb5⟩
          rw [HRP.out] at he ho5
          subst he
          have CS5 := Lib.hid (btwo CS4.out hb5)
          have HO5 := Lib.hid (HO4.out.below hb5)
          have R5 := Lib.hid ho5.reads
          clear hb5 ho5
          go_wp2_with fail; refine hK.out _ _ CS5.out ?_; clear hK; (try simp only [Act.put, List.setIfInBounds_toArray, List.set_cons_zero, List.set_cons_succ])
          refine TR.eff _ (by simp only [List.getElem?_toArray, List.getElem?_cons_succ, List.getElem?_cons_zero]; rfl) (by rfl) (fun K hK => ?_)
          refine wp_papp (.tmp 37) (.tmp 42) rfl wr.heap.size A4 (1 + m) c4 ([pv (k, v)] ++ pvs l.pre) rfl HO5.out w5.heap.size A5 (j - (m + 1)) c5 (pvs r.pre) rfl R5.out (by omega) CS5.out.size ?_
          intro A6 c6 w6 ho6 hg6
          have CS6 := Lib.hid (below_papp CS5.out hg6 HO5.out (Nat.le_refl _) CS5.out.size)
          have HO6 := Lib.hid ho6
          refine hK.out _ _ CS6.out ?_
          clear hK ho6 hg6
          (try simp only [Act.put, List.setIfInBounds_toArray, List.set_cons_zero, List.set_cons_succ])
          have hS := CS6.out
          iterate 1 ((first | (refine TR.val2 (v := ?_) _ (by simp only [List.getElem?_toArray, List.getElem?_cons_succ, List.getElem?_cons_zero]; rfl) ?_ ?_ ?_ ?_ ?_; rotate_left; (focus rfl); (focus (intro W hSW; (try dsimp only at hSW); go_simp; (try with_reducible rfl); done)); (focus exact fun _ _ _ h => h); (focus assumption)) | (refine TR.skip _ (by simp only [List.getElem?_toArray, List.getElem?_cons_succ, List.getElem?_cons_zero]; rfl) ?_ ?_ ?_ ?_; (focus rfl); (focus exact fun _ _ _ h => h); (focus assumption))); simp only [Act.put, List.setIfInBounds_toArray, List.set_cons_zero, List.set_cons_succ])
          refine TR.done ?_
          clear hS
          go_wp2
          go_ret
          have hlen : (pvs PR).length = 1 + m + (j - (m + 1)) := by rw [HPRE.out]; simp only [List.length_append, HLP.out, HRP.out, List.length_singleton]
          refine ⟨A6, c6, by rw [hlen]; rfl, ?_, BW.out.trans (CS6.out.mono hwz)⟩
          rw [hlen, HPRE.out]
          exact HO6.out.down hwz
theorem rnodesT_v (T : Tr) (B : Nat) (A : Option Addr) (n c : Nat) (w : World) (hg : good T) (hs : ∀ x ∈ T.flat, x.1.size ≤ 140737488355328) (hr : RTab w B A n c T.flat) (hB : B ≤ w.heap.size) (hn : n ≤ 1000000) :
    Calls Try.prog 35 #[.agg #[.slice A n c]] w (SlPost w (pvs T.pre)) := by
  have HR := Lib.hid (Reads.alloc hr.1 hB (.cells #[.slice A n c] 44))
  have HB := Lib.hid (show Below w.heap.size w (w.alloc (.cells #[.slice A n c] 44)) from (Below.refl _ _).alloc (Nat.le_refl _) _)
  have hc := box1 w (.slice A n c) 44
  have hnc := hr.2.1
  have hcm := hr.2.2.1
  have HC := Lib.hid hc
  clear hr hc
  go_enter Try.func35, Try.ntmps35
  go_wp2_with fail
  refine (rnodes_v T B A n c _ hg hs HR.out (Nat.le_trans hB HB.out.size) hnc hcm hn).mono ?_
  rintro e w1 ⟨A1, c1, he, ho, hb⟩
  generalize hl : (pvs T.pre).length = k at *
  subst he
  have HO := Lib.hid ho
  have HB1 := Lib.hid (btrans HB.out hb HB.out.size)
  clear ho hb
  go_wp2
  go_ret
  refine ⟨A1, c1, by rw [hl]; rfl, ?_, HB1.out⟩
  rw [hl]
  exact HO.out.down HB.out.size
end Go.Proofs.Ytohcdnbchidjeaa
