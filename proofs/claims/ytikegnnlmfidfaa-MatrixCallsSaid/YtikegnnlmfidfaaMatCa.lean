/-
  Matrices: the reference's Copy.
-/
import Derived.Test.YtikegnnlmfidfaaMatY
import Derived.Test.YtikegnnlmfidfaaMatQ
namespace Go.Proofs.Ytikegnnlmfidfaa
open Go.RowKit
section
variable {o : Oper} {a : Act} {K : Act → World → Prop} {Q : Exit → Act → World → Prop} {w : World}
/-- Rows and one more, of the call's own. -/
theorem wp_appRow (s x : Operand) (ho : o.op = .call { callee := .builtin .append, args := #[s, x], argTypes := #[25, 25] })
    (base : Nat) (A : Option Addr) (n c : Nat) (rs : List Rw) (hs : a.eval s = .slice A n c) (hown : OwnM w base A n c rs) (r : Rw) (hri : IOwn w base r.a r.n r.c r.ds) (hrf : r.f.size ≤ 9223372036854775807) (hap : ∀ x ∈ rs, apartR x r)
    (B : Nat) (D : Option Addr) (hx : a.eval x = .slice D 1 1) (hr : Reads w B 2 D 1 r.cells) (hlen : n + 1 ≤ 1000000) (hbase : base ≤ w.heap.size)
    (h : ∀ A' c' w', OwnM w' base A' (n + 1) c' (rs ++ [r]) → w.grownBy w' (Value.slice A n c).ownBlock → K (a.put o.dst (.slice A' (n + 1) c')) w') : o.wp Try.prog a w K Q := by
  obtain ⟨i0, hi, hz0, hz1, hz2⟩ := info_parts info_R
  refine wp_append_any w s x 25 ho base 56 i0 _ 2 40 Try.underlying25 hi hz0 hz1 hz2 rfl (by decide) (.slice A n c) n _ hs hown.row B D 1 1 _ hx hr
    (fun u hu => row1 [r] u (by simpa using hu)) (by simp only [maxLen]; omega) (by omega) hbase ?_
  intro v' w' hown' hg _
  obtain ⟨A', c', rfl, hc⟩ := own_shape hown'
  have keepI : ∀ {m d : Nat} {D' : Option Addr} {l : List Int}, IOwn w base D' m d l → IOwn w' base D' m d l := fun hI => hI.keep fun j hj => hg.block j (hI.lt j hj).2 fun e => row_int_ne hown.row hI hj e.symm
  refine h A' c' w' ⟨by rw [List.flatMap_append]; simpa using hown', fun y hy => ?_, List.pairwise_append.2 ⟨hown.apart, List.pairwise_singleton _ _, fun y hy z hz => ?_⟩⟩ hg
  · rcases List.mem_append.1 hy with hy | hy
    · exact ⟨keepI (hown.each y hy).1, (hown.each y hy).2⟩
    · obtain rfl := List.mem_singleton.1 hy
      exact ⟨keepI hri, hrf⟩
  · obtain rfl := List.mem_singleton.1 hz
    exact hap y hy
/-- Ints behind an empty row that was just made. -/
theorem wp_appI0 (s x : Operand) (ho : o.op = .call { callee := .builtin .append, args := #[s, x], argTypes := #[35, 35] })
    (base : Nat) (A : Option Addr) (n c : Nat) (xs : List Int) (hs : a.eval s = .slice A n c) (hown : IOwn w base A n c xs)
    (B : Nat) (D : Option Addr) (m d : Nat) (l : List Int) (hx : a.eval x = .slice D m d) (hr : IReads w B D m l)
    (N : Nat) (L : List Int) (hN : n + m = N) (hL : xs ++ l = L) (hlen : N ≤ 1000000) (hbase : base ≤ w.heap.size)
    (h : ∀ A' c' w', IOwn w' base A' N c' L → w.grownBy w' (Value.slice A n c).ownBlock → K (a.put o.dst (.slice A' N c')) w') : o.wp Try.prog a w K Q := by
  subst hN hL
  obtain ⟨i0, hi, hz0, hz1, hz2⟩ := info_parts info_int
  refine wp_append_any w s x 35 ho base 3 i0 (.int .i64 0) 1 8 Try.underlying35 hi hz0 hz1 hz2 rfl (by decide) (.slice A n c) n _ hs hown.1 B D m d _ hx hr
    (int1 l) (by simp only [maxLen]; omega) (by omega) hbase ?_
  intro v' w' hown' hg _
  obtain ⟨A', c', rfl, hc⟩ := own_shape hown'
  exact h A' c' w' ⟨by rw [List.map_append]; exact hown', hc⟩ hg
end
set_option maxRecDepth 100000 in
set_option maxHeartbeats 16000000 in
theorem rcopy_v (own : Int) (A : Option Addr) (n c B : Nat) (rs : List Rw) (w : World) (hr : RowsR w B A n rs) (hB : B ≤ w.heap.size) (hn : n ≤ 100000) (hrs : ∀ r ∈ rs, r.n ≤ 100000) :
    Calls Try.prog 53 #[.agg #[.int .i64 own, .slice A n c]] w fun e w' => ∃ A' c' rs', e = .returned (.agg #[.int .i64 own, .slice A' n c']) ∧ OwnM w' w.heap.size A' n c' rs' ∧ rs'.map Rw.p = rs.map Rw.p ∧ Below w.heap.size w w' := by
  have HR := Lib.hid hr
  have HLN := Lib.hid hr.len
  have HRS := Lib.hid hrs
  have HIM := Lib.hid (show (Try.prog.info? 27).map (·.size) = some 2 by kernel_rfl)
  have B0 := Lib.hid (((Below.refl w.heap.size w).alloc (Nat.le_refl _) (.cells #[.int .i64 own, .slice A n c] 27)).alloc (by simp) (.cells #[.int .i64 0, .slice none 0 0] 27))
  have X0 := Lib.hid (show ((w.alloc (.cells #[.int .i64 own, .slice A n c] 27)).alloc (.cells #[.int .i64 0, .slice none 0 0] 27)).heap[w.heap.size]? = some (.cells #[.int .i64 own, .slice A n c] 27 (0, 0)) from (Below.heap_alloc _ _ _ (by simp)).trans (heap_alloc_new w _))
  have Y0 := Lib.hid (show ((w.alloc (.cells #[.int .i64 own, .slice A n c] 27)).alloc (.cells #[.int .i64 0, .slice none 0 0] 27)).heap[w.heap.size + 1]? = some (.cells #[.int .i64 0, .slice none 0 0] 27 (0, 0)) from by
    have h := heap_alloc_new (w.alloc (.cells #[.int .i64 own, .slice A n c] 27)) (.cells #[.int .i64 0, .slice none 0 0] 27)
    simpa using h)
  have hz0 : w.heap.size + 2 ≤ ((w.alloc (.cells #[.int .i64 own, .slice A n c] 27)).alloc (.cells #[.int .i64 0, .slice none 0 0] 27)).heap.size := by simp
  clear hr hrs
  go_enter Try.func53, Try.ntmps53
  go_upto_region 1 with fail
  generalize (w.alloc (.cells #[.int .i64 own, .slice A n c] 27)).alloc (.cells #[.int .i64 0, .slice none 0 0] 27) = w0 at *
  generalize hg : w.heap.size = g at *
  have HG := Lib.hid hg
  clear hg
  have c00 : w0.cell? ⟨g, 0, none⟩ = some (.int .i64 own) := by rw [cell_of_row _ _ 0 _ _ _ X0.out]; rfl
  go_upto_region 2 with fail
  have B1 := Lib.hid (B0.out.alloc (by omega) (.cells #[.int .i64 own, .slice none 0 0] 27))
  have X1 := Lib.hid ((Below.heap_alloc w0 (.cells #[.int .i64 own, .slice none 0 0] 27) g (by omega)).trans X0.out)
  have Y1 := Lib.hid ((Below.heap_alloc w0 (.cells #[.int .i64 own, .slice none 0 0] 27) (g + 1) (by omega)).trans Y0.out)
  have Q1 := Lib.hid (heap_alloc_new w0 (.cells #[.int .i64 own, .slice none 0 0] 27))
  have hz1 : w0.heap.size + 1 ≤ (w0.alloc (.cells #[.int .i64 own, .slice none 0 0] 27)).heap.size := by simp
  clear c00 B0 X0 Y0
  generalize w0.alloc (.cells #[.int .i64 own, .slice none 0 0] 27) = w1 at *
  generalize w0.heap.size = q at *
  go_wp2_with fail
  go_loopw [4] (fun i wr => ∃ (k : Nat) (A' : Option Addr) (c' : Nat) (ys : List Rw), k ≤ n ∧ i = .int .i64 (k : Int) ∧ ys.map Rw.p = (rs.take k).map Rw.p ∧ OwnM wr (q + 1) A' k c' ys ∧ wr.heap[q]? = some (.cells #[.int .i64 own, .slice A' k c'] 27 (0, 0)) ∧ wr.heap[g]? = some (.cells #[.int .i64 own, .slice A n c] 27 (0, 0)) ∧ wr.heap[g + 1]? = some (.cells #[.int .i64 0, .slice none 0 0] 27 (0, 0)) ∧ Below g w wr ∧ q + 1 ≤ wr.heap.size) (fun i _ => n - (intOf i).toNat)
  case atStart => exact ⟨0, none, 0, [], Nat.zero_le _, rfl, rfl, ⟨World.ownsRow_nil w1 _ _ 2, by simp, List.Pairwise.nil⟩, Q1.out, X1.out, Y1.out, B1.out, hz1⟩
  case round =>
    obtain ⟨k, A', c', ys, hk, rfl, hyp, ho, hq, hx, hy, hb, hz⟩ := hrel
    have HYP := Lib.hid hyp
    have HO := Lib.hid ho
    have HQ := Lib.hid hq
    have HX := Lib.hid hx
    have HY := Lib.hid hy
    have HB := Lib.hid hb
    clear hyp ho hq hx hy hb Q1 X1 Y1 B1 hz1
    have c31 : wr.cell? ⟨g, 1, none⟩ = some (.slice A n c) := by rw [cell_of_row _ _ 1 _ _ _ HX.out]; rfl
    have q0 : wr.cell? ⟨q, 0, none⟩ = some (.int .i64 own) := by rw [cell_of_row _ _ 0 _ _ _ HQ.out]; rfl
    have q1 : wr.cell? ⟨q, 1, none⟩ = some (.slice A' k c') := by rw [cell_of_row _ _ 1 _ _ _ HQ.out]; rfl
    by_cases hlt : k < n
    · obtain ⟨ad, rf, ra, rn, rc, ds, rfl, hx, ⟨hri, hrn, hrc, hfs⟩, _, hcc⟩ := HR.out.at_ hlt
      have HXX := Lib.hid hx
      have hrn2 := HRS.out _ (List.mem_of_getElem? hx)
      simp only at hrn2
      have HRI := Lib.hid (show ∀ V, Below g w V → IReads V B ra rn ds from fun V hV => Reads.below hri (hV.mono hB))
      have k0 : (0 : Int) ≤ (k : Int) := by omega
      have k1 : (k : Int) < (n : Int) := by omega
      have hF : wr.drew.cell? ⟨g, 1, none⟩ = some (.slice (some ad) n c) ∧ wr.drew.cell? (ad.add (k * 2)) = some (.string rf) ∧ wr.drew.cell? ⟨(ad.add (k * 2)).block, (ad.add (k * 2)).off + 1, none⟩ = some (.slice ra rn rc) := ⟨c31, (hcc wr (HB.out.mono hB)).1, (hcc wr (HB.out.mono hB)).2⟩
      have hG : wr.drew.cell? ⟨q, 1, none⟩ = some (.slice A' k c') := q1
      have HFK := Lib.hid (show ∀ V, Below wr.heap.size wr V → V.cell? ⟨g, 1, none⟩ = some (.slice (some ad) n c) ∧ V.cell? (ad.add (k * 2)) = some (.string rf) ∧ V.cell? ⟨(ad.add (k * 2)).block, (ad.add (k * 2)).off + 1, none⟩ = some (.slice ra rn rc) from fun V hV => ⟨keepc hV c31, (hcc V ((HB.out.trans (hV.mono (by omega))).mono hB)).1, (hcc V ((HB.out.trans (hV.mono (by omega))).mono hB)).2⟩)
      clear hri hx hcc
      go_upto_region 5 with fail
      clear c31 q0
      refine wp_region_F 20 [(0, 1), (1, 2), (2, 1), (3, 1), (4, 1), (5, 1), (6, 1), (7, 1), (9, 1), (10, 1), (11, 1), (12, 1), (13, 1), (14, 1), (8, 0), (15, 0), (16, 1), (17, 0), (18, 0), (19, 1), (20, 4)] (fun V => V.cell? ⟨g, 1, none⟩ = some (.slice (some ad) n c) ∧ V.cell? (ad.add (k * 2)) = some (.string rf) ∧ V.cell? ⟨(ad.add (k * 2)).block, (ad.add (k * 2)).off + 1, none⟩ = some (.slice ra rn rc)) (fun V => V.cell? ⟨q, 1, none⟩ = some (.slice A' k c')) (by kernel_rfl) (by kernel_rfl) (by kernel_rfl) (by kernel_rfl) (by kernel_rfl) (fun _ => ?_)
      simp only [outE, List.getElem?_cons_zero, List.getElem?_cons_succ, Option.getD_some]
      have T0 := Lib.hid (show Below wr.heap.size wr wr.drew from (Below.refl _ _).drew)
      generalize wr.drew = v0 at *
      have hzv0 : wr.heap.size ≤ v0.heap.size := T0.out.size
      iterate 1 (refine TF.val1 (v := ?_) ?_ ?_ ?_ ?_ ?_ ?_; rotate_left; (focus rfl); (focus (intro W hSW; (try dsimp only at hSW); (try (obtain ⟨hS1, hSW⟩ := hSW)); (try (obtain ⟨hS2, hSW⟩ := hSW)); (try (obtain ⟨hS3, hSW⟩ := hSW)); (try (obtain ⟨hS4, hSW⟩ := hSW)); (try (obtain ⟨hS5, hSW⟩ := hSW)); (try (obtain ⟨hS6, hSW⟩ := hSW)); (try (obtain ⟨hS7, hSW⟩ := hSW)); (try (obtain ⟨hS8, hSW⟩ := hSW)); go_simp; (try with_reducible rfl); done)); (focus exact fun _ _ _ h => h); (focus exact hF); (focus exact hG); simp only [Act.put, List.setIfInBounds_toArray, List.set_cons_zero, List.set_cons_succ])
      iterate 1 (refine TF.val2 (v := ?_) ?_ ?_ ?_ ?_ ?_ ?_; rotate_left; (focus rfl); (focus (intro W hSW; (try dsimp only at hSW); (try (obtain ⟨hS1, hSW⟩ := hSW)); (try (obtain ⟨hS2, hSW⟩ := hSW)); (try (obtain ⟨hS3, hSW⟩ := hSW)); (try (obtain ⟨hS4, hSW⟩ := hSW)); (try (obtain ⟨hS5, hSW⟩ := hSW)); (try (obtain ⟨hS6, hSW⟩ := hSW)); (try (obtain ⟨hS7, hSW⟩ := hSW)); (try (obtain ⟨hS8, hSW⟩ := hSW)); go_simp; (try with_reducible rfl); done)); (focus exact fun _ _ _ h => h); (focus exact hF); (focus exact hG); simp only [Act.put, List.setIfInBounds_toArray, List.set_cons_zero, List.set_cons_succ])
      iterate 12 (refine TF.val1 (v := ?_) ?_ ?_ ?_ ?_ ?_ ?_; rotate_left; (focus rfl); (focus (intro W hSW; (try dsimp only at hSW); (try (obtain ⟨hS1, hSW⟩ := hSW)); (try (obtain ⟨hS2, hSW⟩ := hSW)); (try (obtain ⟨hS3, hSW⟩ := hSW)); (try (obtain ⟨hS4, hSW⟩ := hSW)); (try (obtain ⟨hS5, hSW⟩ := hSW)); (try (obtain ⟨hS6, hSW⟩ := hSW)); (try (obtain ⟨hS7, hSW⟩ := hSW)); (try (obtain ⟨hS8, hSW⟩ := hSW)); go_simp; (try with_reducible rfl); done)); (focus exact fun _ _ _ h => h); (focus exact hF); (focus exact hG); simp only [Act.put, List.setIfInBounds_toArray, List.set_cons_zero, List.set_cons_succ])
      refine TF.eff0 (by rfl) (fun K hK => ?_); go_simp
      have T1 := Lib.hid (T0.out.alloc hzv0 (.cells #[] 3))
      have O1 := Lib.hid (show IOwn (v0.alloc (.cells #[] 3)) v0.heap.size (some ⟨v0.heap.size, 0, none⟩) 0 0 [] from ⟨own_empty v0 3 1, Nat.le_refl _⟩)
      have hF1 := HFK.out _ T1.out
      have hG1 : (v0.alloc (.cells #[] 3)).cell? ⟨q, 1, none⟩ = some (.slice A' k c') := (T1.out.cell (p := ⟨q, 1, none⟩) (show q < wr.heap.size by omega)).trans q1
      have hzv1 : v0.heap.size ≤ (v0.alloc (.cells #[] 3)).heap.size := by simp
      refine hK.out _ _ hF1 hG1 ?_
      clear hK hF hG
      (try simp only [Act.put, List.setIfInBounds_toArray, List.set_cons_zero, List.set_cons_succ])
      generalize v0.alloc (.cells #[] 3) = v1 at *
      have hF := hF1
      have hG := hG1
      clear hF1 hG1
      refine TF.eff0 (by rfl) (fun K hK => ?_)
      refine wp_appI0 (.tmp 23) (.tmp 29) rfl v0.heap.size (some ⟨v0.heap.size, 0, none⟩) 0 0 [] rfl O1.out B ra rn rc ds rfl (HRI.out v1 (HB.out.trans (T1.out.mono (by omega)))) rn ds (by omega) rfl (by omega) hzv1 ?_
      intro A5 c5 v2 ho5 hg5
      have T2 := Lib.hid (T1.out.grown hg5 (by omega) (fun j e => by have := (O1.out.lt j e).1; omega))
      have O2 := Lib.hid ho5
      have hzv2 := hg5.size
      have hF1 := HFK.out _ T2.out
      have hG1 : v2.cell? ⟨q, 1, none⟩ = some (.slice A' k c') := (T2.out.cell (p := ⟨q, 1, none⟩) (show q < wr.heap.size by omega)).trans q1
      clear ho5 hg5
      refine hK.out _ _ hF1 hG1 ?_
      clear hK hF hG
      (try simp only [Act.put, List.setIfInBounds_toArray, List.set_cons_zero, List.set_cons_succ])
      have hF := hF1
      have hG := hG1
      clear hF1 hG1
      iterate 1 (refine TF.val1 (v := ?_) ?_ ?_ ?_ ?_ ?_ ?_; rotate_left; (focus rfl); (focus (intro W hSW; (try dsimp only at hSW); (try (obtain ⟨hS1, hSW⟩ := hSW)); (try (obtain ⟨hS2, hSW⟩ := hSW)); (try (obtain ⟨hS3, hSW⟩ := hSW)); (try (obtain ⟨hS4, hSW⟩ := hSW)); (try (obtain ⟨hS5, hSW⟩ := hSW)); (try (obtain ⟨hS6, hSW⟩ := hSW)); (try (obtain ⟨hS7, hSW⟩ := hSW)); (try (obtain ⟨hS8, hSW⟩ := hSW)); go_simp; (try with_reducible rfl); done)); (focus exact fun _ _ _ h => h); (focus exact hF); (focus exact hG); simp only [Act.put, List.setIfInBounds_toArray, List.set_cons_zero, List.set_cons_succ])
      refine TF.eff0 (by rfl) (fun K hK => ?_); go_simp
      have b3 := (Below.refl v2.heap.size v2).alloc (Nat.le_refl _) (.cells #[.string rf, .slice A5 rn c5] 56)
      have T3 := Lib.hid (T2.out.alloc (by omega) (.cells #[.string rf, .slice A5 rn c5] 56))
      have O3 := Lib.hid (O2.out.below b3)
      have R3 := Lib.hid (show Reads (v2.alloc (.cells #[.string rf, .slice A5 rn c5] 56)) (v2.heap.size + 1) 2 (some ⟨v2.heap.size, 0, none⟩) 1 (Rw.cells ⟨rf, A5, rn, c5, ds⟩) from by
        refine ⟨rfl, fun _ => ⟨_, rfl, Nat.lt_succ_self _, fun j u hu => ?_⟩⟩
        have h1 := heap_alloc_new v2 (.cells #[.string rf, .slice A5 rn c5] 56)
        rw [show (⟨v2.heap.size, 0, none⟩ : Addr).add j = ⟨v2.heap.size, j, none⟩ by simp [Addr.add]; omega, cell_of_row _ _ j _ _ _ h1]
        simpa [Rw.cells] using hu)
      have hF1 := HFK.out _ T3.out
      have hG1 : (v2.alloc (.cells #[.string rf, .slice A5 rn c5] 56)).cell? ⟨q, 1, none⟩ = some (.slice A' k c') := (T3.out.cell (p := ⟨q, 1, none⟩) (show q < wr.heap.size by omega)).trans q1
      have hzv3 : v2.heap.size ≤ (v2.alloc (.cells #[.string rf, .slice A5 rn c5] 56)).heap.size := by simp
      clear b3
      refine hK.out _ _ hF1 hG1 ?_
      clear hK hF hG
      (try simp only [Act.put, List.setIfInBounds_toArray, List.set_cons_zero, List.set_cons_succ])
      generalize v2.alloc (.cells #[.string rf, .slice A5 rn c5] 56) = v3 at *
      generalize v2.heap.size = z2 at *
      have hF := hF1
      have hG := hG1
      clear hF1 hG1
      refine TF.eff0 (by rfl) (fun K hK => ?_)
      have OM3 := Lib.hid (HO.out.below T3.out)
      have hlo : ∀ j, (Value.slice A' k c').ownBlock = some j → q + 1 ≤ j ∧ j < wr.heap.size := fun j hj => HO.out.row.lt j hj
      have hap3 : ∀ x ∈ ys, apartR x ⟨rf, A5, rn, c5, ds⟩ := fun x hx b h1 h2 => by
        have p1 := ((HO.out.each x hx).1.lt b h1).2
        have p2 := (O2.out.lt b h2).1
        omega
      refine wp_appRow (.tmp 16) (.tmp 32) rfl (q + 1) A' k c' ys rfl OM3.out ⟨rf, A5, rn, c5, ds⟩ (O3.out.down (by omega)) hfs hap3 (z2 + 1) (some ⟨z2, 0, none⟩) rfl R3.out (by omega) (by omega) ?_
      intro A7 c7 v4 ho7 hg7
      have BV := Lib.hid ((HB.out.trans (T3.out.mono (by omega))).grown hg7 (by omega) (fun j e => by have := (hlo j e).1; omega))
      have hq4 : v4.heap[q]? = some (.cells #[.int .i64 own, .slice A' k c'] 27 (0, 0)) := (hg7.block q (by omega) (fun e => by have := (hlo q e.symm).1; omega)).trans ((T3.out.block q (by omega)).trans HQ.out)
      have hx4 : v4.heap[g]? = some (.cells #[.int .i64 own, .slice (some ad) n c] 27 (0, 0)) := (hg7.block g (by omega) (fun e => by have := (hlo g e.symm).1; omega)).trans ((T3.out.block g (by omega)).trans HX.out)
      have hy4 : v4.heap[g + 1]? = some (.cells #[.int .i64 0, .slice none 0 0] 27 (0, 0)) := (hg7.block (g + 1) (by omega) (fun e => by have := (hlo (g + 1) e.symm).1; omega)).trans ((T3.out.block (g + 1) (by omega)).trans HY.out)
      have hF1 : v4.cell? ⟨g, 1, none⟩ = some (.slice (some ad) n c) ∧ v4.cell? (ad.add (k * 2)) = some (.string rf) ∧ v4.cell? ⟨(ad.add (k * 2)).block, (ad.add (k * 2)).off + 1, none⟩ = some (.slice ra rn rc) := by
        obtain ⟨ad', rf', ra', rn', rc', ds', hA, hx', _, _, hcc⟩ := HR.out.at_ hlt
        obtain rfl := Option.some.inj hA
        rw [HXX.out] at hx'
        obtain ⟨rfl, rfl, rfl, rfl, rfl⟩ := Option.some.inj hx'
        exact ⟨by rw [cell_of_row _ _ 1 _ _ _ hx4]; rfl, (hcc v4 (BV.out.mono hB)).1, (hcc v4 (BV.out.mono hB)).2⟩
      have hG1 : v4.cell? ⟨q, 1, none⟩ = some (.slice A' k c') := by rw [cell_of_row _ _ 1 _ _ _ hq4]; rfl
      have hfz : v4.frozen? ⟨q, 1, none⟩ = false := by unfold World.frozen?; rw [hq4]; simp
      have hsz4 := hg7.size
      have OM4 := Lib.hid ho7
      have HQ4 := Lib.hid hq4
      have HX4 := Lib.hid hx4
      have HY4 := Lib.hid hy4
      clear ho7 hg7 hq4 hx4 hy4 hlo hap3
      refine hK.out _ _ hF1 hG1 ?_
      clear hK hF hG
      (try simp only [Act.put, List.setIfInBounds_toArray, List.set_cons_zero, List.set_cons_succ])
      have hF := hF1
      have hG := hG1
      clear hF1 hG1
      iterate 1 (refine TF.val1 (v := ?_) ?_ ?_ ?_ ?_ ?_ ?_; rotate_left; (focus rfl); (focus (intro W hSW; (try dsimp only at hSW); (try (obtain ⟨hS1, hSW⟩ := hSW)); (try (obtain ⟨hS2, hSW⟩ := hSW)); (try (obtain ⟨hS3, hSW⟩ := hSW)); (try (obtain ⟨hS4, hSW⟩ := hSW)); (try (obtain ⟨hS5, hSW⟩ := hSW)); (try (obtain ⟨hS6, hSW⟩ := hSW)); (try (obtain ⟨hS7, hSW⟩ := hSW)); (try (obtain ⟨hS8, hSW⟩ := hSW)); go_simp; (try with_reducible rfl); done)); (focus exact fun _ _ _ h => h); (focus exact hF); (focus exact hG); simp only [Act.put, List.setIfInBounds_toArray, List.set_cons_zero, List.set_cons_succ])
      have HQS := Lib.hid (heap_setCell_same v4 q 1 _ _ (.slice A7 (k + 1) c7) HQ4.out)
      have HXS := Lib.hid ((Below.heap_setCell v4 ⟨q, 1, none⟩ (.slice A7 (k + 1) c7) g (by show g ≠ q; omega)).trans HX4.out)
      have HYS := Lib.hid ((Below.heap_setCell v4 ⟨q, 1, none⟩ (.slice A7 (k + 1) c7) (g + 1) (by show g + 1 ≠ q; omega)).trans HY4.out)
      have BS := Lib.hid (BV.out.setCell (p := ⟨q, 1, none⟩) (show g ≤ q by omega) (.slice A7 (k + 1) c7))
      have hsz5 : (v4.setCell ⟨q, 1, none⟩ (.slice A7 (k + 1) c7)).heap.size = v4.heap.size := by simp [World.setCell]
      have hz5 : q + 1 ≤ (v4.setCell ⟨q, 1, none⟩ (.slice A7 (k + 1) c7)).heap.size := by omega
      have OMS := Lib.hid (show OwnM (v4.setCell ⟨q, 1, none⟩ (.slice A7 (k + 1) c7)) (q + 1) A7 (k + 1) c7 (ys ++ [⟨rf, A5, rn, c5, ds⟩]) from ⟨own_keep OM4.out.row fun j hj => Below.heap_setCell v4 _ _ j (by have := (OM4.out.row.lt j hj).1; show j ≠ q; omega), fun y hy => ⟨(OM4.out.each y hy).1.keep fun j hj => Below.heap_setCell v4 _ _ j (by have := ((OM4.out.each y hy).1.lt j hj).1; show j ≠ q; omega), (OM4.out.each y hy).2⟩, OM4.out.apart⟩)
      have HPS := Lib.hid (show (ys ++ [(⟨rf, A5, rn, c5, ds⟩ : Rw)]).map Rw.p = (rs.take (k + 1)).map Rw.p by rw [List.map_append, HYP.out, List.take_add_one, HXX.out, List.map_append]; rfl)
      have hFS : (v4.setCell ⟨q, 1, none⟩ (.slice A7 (k + 1) c7)).cell? ⟨g, 1, none⟩ = some (.slice (some ad) n c) ∧ (v4.setCell ⟨q, 1, none⟩ (.slice A7 (k + 1) c7)).cell? (ad.add (k * 2)) = some (.string rf) ∧ (v4.setCell ⟨q, 1, none⟩ (.slice A7 (k + 1) c7)).cell? ⟨(ad.add (k * 2)).block, (ad.add (k * 2)).off + 1, none⟩ = some (.slice ra rn rc) := by
        obtain ⟨ad', rf', ra', rn', rc', ds', hA, hx', _, _, hcc⟩ := HR.out.at_ hlt
        obtain rfl := Option.some.inj hA
        rw [HXX.out] at hx'
        obtain ⟨rfl, rfl, rfl, rfl, rfl⟩ := Option.some.inj hx'
        exact ⟨by rw [cell_of_row _ _ 1 _ _ _ HXS.out]; rfl, (hcc _ (BS.out.mono hB)).1, (hcc _ (BS.out.mono hB)).2⟩
      clear hsz5
      refine TF.eff4 (by rfl) (fun K hK => ?_); go_simp
      refine hK.out _ _ hFS ?_
      refine TF.done ?_
      clear hK hF hG hFS hfz
      go_wp2_with fail
      go_roundw
      case rel => exact ⟨k + 1, A7, c7, _, hlt, by go_num, HPS.out, OMS.out, HQS.out, HXS.out, HYS.out, BS.out, hz5⟩
      case measure => simp [intOf]; omega
    · obtain rfl : k = n := by omega
      clear hlt
      have HP := Lib.hid (show ys.map Rw.p = rs.map Rw.p by rw [HYP.out, List.take_of_length_le (by rw [HLN.out]; exact Nat.le_refl _)])
      have XS := Lib.hid (setRow_heap wr (g + 1) _ #[.int .i64 own, .slice A' k c'] _ _ HY.out)
      have BS := Lib.hid (below_setRow HB.out (Nat.le_succ _) #[.int .i64 own, .slice A' k c'])
      have HOM := Lib.hid (show OwnM (wr.setRow (g + 1) #[.int .i64 own, .slice A' k c']) g A' k c' ys from ⟨own_down (base := q + 1) (own_keep HO.out.row (fun j hj => setRow_other _ _ _ _ (by have := (HO.out.row.lt j hj).1; omega))) (by omega),
        fun y hy => ⟨((HO.out.each y hy).1.keep (fun j hj => setRow_other _ _ _ _ (by have := ((HO.out.each y hy).1.lt j hj).1; omega))).down (by omega), (HO.out.each y hy).2⟩, HO.out.apart⟩)
      go_wp2_with (first
        | (refine wpList_store_row rfl 27 (.tmp 2) (.tmp 35) rfl (g + 1) #[.int .i64 own, .slice A' k c'] rfl rfl 27 _ HY.out HIM.out rfl (by simp [Value.oneCell']) ?_)
        | fail)
      exact bodyPost_ret (results_cell_row Try.results53 _ _ (g + 1) _ #[.int .i64 own, .slice A' k c'] _ _ rfl XS.out Try.underlying27 rfl HIM.out) rfl ⟨A', c', ys, rfl, HG.out ▸ HOM.out, HP.out, HG.out ▸ BS.out⟩
end Go.Proofs.Ytikegnnlmfidfaa
