/-
  Digests: text, the chapter's examples.
-/
import Derived.Test.YtlbiinkidecfbaaShaJ
namespace Go.Proofs.Ytlbiinkidecfbaa
open Go.RowKit
theorem run_index_int {P : Program} {w : World} {t e : TypeId} {n : Nat} {cs : Array Value} {kd k : IntKind} {j : Nat} {v : Value} (h : P.underlying t = some (.array n e)) (he : P.underlying e = some (.int k)) (hi : (P.info? e).map (·.size) = some 1) (hj : j < n) (hv : cs[j]? = some v) :
    (Instr.index t (.agg cs) (.int kd (j : Int))).run P w = .ok v w := by
  cases hq : P.info? e with
  | none => simp [hq] at hi
  | some i =>
    have hs : i.size = 1 := by simpa [hq] using hi
    simp [Instr.index, asIntOf, run_underlying h, part, isAgg, run_underlying he, sizeOf, typeInfo, hq, hs, hj, hv, Result.andThen]
def signN (j : Nat) : Nat := if j < 10 then 48 + j else 87 + j
def hexS : ByteArray := ⟨#[48, 49, 50, 51, 52, 53, 54, 55, 56, 57, 97, 98, 99, 100, 101, 102]⟩
def sign8 (j : Nat) : UInt8 := UInt8.ofNat (signN j)
def hexL (ds : List Nat) : List UInt8 := ds.flatMap fun x => [sign8 (x / 16), sign8 (x % 16)]
theorem hexL_snoc (ds : List Nat) (x : Nat) : hexL (ds ++ [x]) = hexL ds ++ [sign8 (x / 16), sign8 (x % 16)] := by simp [hexL]
theorem hexL_len (ds : List Nat) : (hexL ds).length = 2 * ds.length := by
  induction ds with
  | nil => rfl
  | cons x l ih => rw [hexL, List.flatMap_cons, List.length_append, ← hexL, ih]; simp; omega
theorem hex_index (j : Nat) (hj : j < 16) (w : World) : (Instr.index 9 (.string hexS) (.int .u8 (j : Int))).run Try.prog w = .ok (.int .u8 ((sign8 j).toNat : Int)) w := by
  rw [run_index_string w 9 hexS .u8 (j : Int) Try.underlying9, dif_pos ⟨by omega, by show (j : Int) < 16; omega⟩]
  rcases (show j = 0 ∨ j = 1 ∨ j = 2 ∨ j = 3 ∨ j = 4 ∨ j = 5 ∨ j = 6 ∨ j = 7 ∨ j = 8 ∨ j = 9 ∨ j = 10 ∨ j = 11 ∨ j = 12 ∨ j = 13 ∨ j = 14 ∨ j = 15 by omega) with rfl | rfl | rfl | rfl | rfl | rfl | rfl | rfl | rfl | rfl | rfl | rfl | rfl | rfl | rfl | rfl <;> rfl
theorem BReads.two {V : World} {b : Nat} {x y : UInt8} (h0 : V.cell? ⟨b, 0, none⟩ = some (.int .u8 (x.toNat : Int))) (h1 : V.cell? ⟨b, 1, none⟩ = some (.int .u8 (y.toNat : Int))) : BReads V (b + 1) (some ⟨b, 0, none⟩) 2 [x, y] := by
  refine ⟨rfl, fun _ => ⟨_, rfl, Nat.lt_succ_self _, fun j u hu => ?_⟩⟩
  rcases j with _ | _ | j
  · simp [u8v] at hu; subst hu; rw [add_zero]; exact h0
  · simp [u8v] at hu; subst hu; rw [add_pos _ _ (by omega)]; exact h1
  · simp at hu
theorem wp_app8 {o : Oper} {a : Act} {w : World} {K : Act → World → Prop} {Q : Exit → Act → World → Prop} (s x : Operand)
    (ho : o.op = .call { callee := .builtin .append, args := #[s, x], argTypes := #[22, 22] })
    (base : Nat) (A : Option Addr) (n c : Nat) (xs : List UInt8) (hs : a.eval s = .slice A n c) (hown : BOwn w base A n c xs)
    (B : Nat) (D : Option Addr) (m d : Nat) (l : List UInt8) (hx : a.eval x = .slice D m d) (hr : BReads w B D m l)
    (N : Nat) (L : List UInt8) (hN : n + m = N) (hL : xs ++ l = L) (hlen : N ≤ 140737488355328) (hbase : base ≤ w.heap.size)
    (h : ∀ A' c' w', BOwn w' base A' N c' L → w.grownBy w' (Value.slice A n c).ownBlock → ((Value.slice A' N c').ownBlock = (Value.slice A n c).ownBlock ∨ (Value.slice A' N c').ownBlock = some w.heap.size) →
      K (a.put o.dst (.slice A' N c')) w') : o.wp Try.prog a w K Q := by
  subst hN hL
  obtain ⟨i0, hi, hz0, hz1, hz2⟩ := info_parts info_u8
  refine wp_append_any w s x 22 ho base 5 i0 (.int .u8 0) 1 1 Try.underlying22 hi hz0 hz1 hz2 rfl (by decide) (.slice A n c) n (xs.map u8v) hs hown.1 B D m d (l.map u8v) hx hr (oneCell_u8 l)
    (by simp only [maxLen]; omega) (by omega) hbase ?_
  intro v' w' hown' hg hat
  obtain ⟨A', c', rfl, hc⟩ := own_shape hown'
  exact h A' c' w' ⟨by rw [List.map_append]; exact hown', hc⟩ hg hat
set_option maxRecDepth 100000 in
set_option maxHeartbeats 4000000 in
theorem text_v (ds : List Nat) (w : World) (hl : ds.length = 32) (hb : ∀ x ∈ ds, x < 256) :
    Calls Try.prog 25 #[.agg (ds.map fun x : Nat => Value.int .u8 (x : Int)).toArray] w fun e w' => e = .returned (.string ⟨(hexL ds).toArray⟩) ∧ Below w.heap.size w w' := by
  have HLN := Lib.hid hl
  have HBD := Lib.hid hb
  clear hl hb
  have HSZ := Lib.hid (show (ds.map fun x : Nat => Value.int .u8 (x : Int)).toArray.size = 32 by simp [HLN.out])
  have HI9 := Lib.hid (show (Try.prog.info? 29).map (·.size) = some 32 by kernel_rfl)
  have HB0 := Lib.hid (heap_alloc_new w (.cells (ds.map fun x : Nat => Value.int .u8 (x : Int)).toArray 29))
  go_enter Try.func25, Try.ntmps25
  go_wp2_with (first
    | (refine wpList_load_row rfl 29 (.tmp 1) rfl w.heap.size rfl 29 (ds.map fun x : Nat => Value.int .u8 (x : Int)).toArray (0, 0) _ HB0.out Try.underlying29 rfl (HI9.out.trans (by rw [HSZ.out])) ?_)
    | fail)
  clear HB0
  have B1 := Lib.hid ((Below.refl w.heap.size w).alloc (Nat.le_refl _) (.cells (ds.map fun x : Nat => Value.int .u8 (x : Int)).toArray 29))
  go_loopw [3, 7] (fun o i wr => ∃ (k : Nat) (A : Option Addr) (c : Nat), k ≤ 32 ∧ i = .int .i64 (k : Int) ∧ o = .slice A (2 * k) c ∧ BOwn wr w.heap.size A (2 * k) c (hexL (ds.take k)) ∧ Below w.heap.size w wr) (fun _ i _ => 32 - (intOf i).toNat)
  case atStart => exact ⟨0, none, 0, Nat.zero_le _, rfl, rfl, BOwn.nil_ _ _, B1.out⟩
  case round =>
    clear B1
    obtain ⟨k, A, c, hk, rfl, rfl, ho, hb⟩ := hrel
    by_cases hlt : k < 32
    · have d1 := dec_lt hlt
      have hkl : k < ds.length := by rw [HLN.out]; exact hlt
      obtain ⟨x, hx⟩ : ∃ x, ds[k]? = some x := ⟨_, List.getElem?_eq_getElem hkl⟩
      have hxb : x < 256 := HBD.out x (List.mem_of_getElem? hx)
      have HT := Lib.hid (show hexL (ds.take k) ++ [sign8 (x / 16), sign8 (x % 16)] = hexL (ds.take (k + 1)) by
        rw [List.take_succ_eq_append_getElem hkl, hexL_snoc]
        have := (List.getElem?_eq_some_iff.1 hx).2
        rw [this])
      have hix : ∀ V : World, (Instr.index 29 (.agg (ds.map fun x : Nat => Value.int .u8 (x : Int)).toArray) (.int .i64 (k : Int))).run Try.prog V = .ok (.int .u8 (x : Int)) V := fun V =>
        run_index_int Try.underlying29 Try.underlying5 (by kernel_rfl) hlt (by simp [hx])
      obtain ⟨y, hy⟩ : ∃ y, x / 16 = y := ⟨_, rfl⟩
      obtain ⟨z, hz⟩ : ∃ z, x % 16 = z := ⟨_, rfl⟩
      have e1 : (x : Int) / 16 = (y : Int) := by omega
      have e2 : bits .and .u8 (x : Int) 15 = (z : Int) := by
        have := u8_and_nat x 15 hxb (by omega)
        rw [show ((15 : Nat) : Int) = 15 from rfl, nat_mask4, hz] at this
        exact this
      have h1 : ∀ V : World, (Instr.index 9 (.string { data := #[48, 49, 50, 51, 52, 53, 54, 55, 56, 57, 97, 98, 99, 100, 101, 102] }) (.int .u8 (y : Int))).run Try.prog V = .ok (.int .u8 ((sign8 y).toNat : Int)) V := fun V => hex_index y (by omega) V
      have h2 : ∀ V : World, (Instr.index 9 (.string { data := #[48, 49, 50, 51, 52, 53, 54, 55, 56, 57, 97, 98, 99, 100, 101, 102] }) (.int .u8 (z : Int))).run Try.prog V = .ok (.int .u8 ((sign8 z).toNat : Int)) V := fun V => hex_index z (by omega) V
      rw [hy, hz] at HT
      clear hx hy hz hkl hk
      have HO := Lib.hid ho
      clear ho
      go_wp2
      refine wp_region_tree (SK.one 0 false <| .one 1 false <| .one 2 false <| .one 3 false <| .one 4 false <| .one 5 false <| .one 6 false <| .one 7 true <| .one 8 true <| .one 9 false .done) (fun V => Below wr.heap.size wr wr ∧ Below V.heap.size V V) (by kernel_rfl) (by kernel_rfl) (by kernel_rfl) (by kernel_rfl) ?_
      have hS : Below wr.heap.size wr wr ∧ Below wr.drew.heap.size wr.drew wr.drew := ⟨Below.refl _ _, Below.refl _ _⟩
      have HOD := Lib.hid HO.out.drew
      have hbd := hb.drew
      clear HO hb
      generalize wr.drew = V0 at *
      ((first | (refine TR.val2 (v := ?_) _ (by simp only [List.getElem?_toArray, List.getElem?_cons_zero]; rfl) ?_ ?_ ?_ ?_ ?_; rotate_left; (focus rfl); (focus (intro W hSW; (try dsimp only at hSW); (try (obtain ⟨hS1, hSW⟩ := hSW)); (try (obtain ⟨hS2, hSW⟩ := hSW)); (try (obtain ⟨hS3, hSW⟩ := hSW)); (try (obtain ⟨hS4, hSW⟩ := hSW)); (try (obtain ⟨hS5, hSW⟩ := hSW)); go_simp; (try with_reducible rfl); done)); (focus exact fun _ _ _ h => h); (focus assumption)) | (refine TR.skip _ (by simp only [List.getElem?_toArray, List.getElem?_cons_zero]; rfl) ?_ ?_ ?_ ?_; (focus rfl); (focus exact fun _ _ _ h => h); (focus assumption))); simp only [Act.put, List.setIfInBounds_toArray, List.set_cons_zero, List.set_cons_succ])
      iterate 6 ((first | (refine TR.val2 (v := ?_) _ (by simp only [List.getElem?_toArray, List.getElem?_cons_succ, List.getElem?_cons_zero]; rfl) ?_ ?_ ?_ ?_ ?_; rotate_left; (focus rfl); (focus (intro W hSW; (try dsimp only at hSW); (try (obtain ⟨hS1, hSW⟩ := hSW)); (try (obtain ⟨hS2, hSW⟩ := hSW)); (try (obtain ⟨hS3, hSW⟩ := hSW)); (try (obtain ⟨hS4, hSW⟩ := hSW)); (try (obtain ⟨hS5, hSW⟩ := hSW)); go_simp; (try with_reducible rfl); done)); (focus exact fun _ _ _ h => h); (focus assumption)) | (refine TR.skip _ (by simp only [List.getElem?_toArray, List.getElem?_cons_succ, List.getElem?_cons_zero]; rfl) ?_ ?_ ?_ ?_; (focus rfl); (focus exact fun _ _ _ h => h); (focus assumption))); simp only [Act.put, List.setIfInBounds_toArray, List.set_cons_zero, List.set_cons_succ])
      refine TR.eff _ (by simp only [List.getElem?_toArray, List.getElem?_cons_succ, List.getElem?_cons_zero]; rfl) (by rfl) (fun K hK => ?_); go_simp
      refine hK.out _ _ ⟨Below.refl _ _, Below.refl _ _⟩ ?_
      clear hK
      (try simp only [Act.put, List.setIfInBounds_toArray, List.set_cons_zero, List.set_cons_succ])
      refine TR.eff _ (by simp only [List.getElem?_toArray, List.getElem?_cons_succ, List.getElem?_cons_zero]; rfl) (by rfl) (fun K hK => ?_)
      refine wp_app8 (.tmp 10) (.tmp 17) rfl w.heap.size A (2 * k) c (hexL (ds.take k)) rfl (HOD.out.alloc _) (V0.heap.size + 1) (some ⟨V0.heap.size, 0, none⟩) 2 2 [sign8 y, sign8 z] rfl (BReads.two (cell_new _ _ _ 0) (cell_new _ _ _ 1)) (2 * (k + 1)) (hexL (ds.take (k + 1))) (by omega) HT.out (by omega) (by simp; exact Nat.le_succ_of_le hbd.size) ?_
      intro A1 c1 w1 ho1 hg1 _
      refine hK.out _ _ ⟨Below.refl _ _, Below.refl _ _⟩ ?_
      clear hK
      (try simp only [Act.put, List.setIfInBounds_toArray, List.set_cons_zero, List.set_cons_succ])
      have hS : Below wr.heap.size wr wr ∧ Below w1.heap.size w1 w1 := ⟨Below.refl _ _, Below.refl _ _⟩
      iterate 1 ((first | (refine TR.val2 (v := ?_) _ (by simp only [List.getElem?_toArray, List.getElem?_cons_succ, List.getElem?_cons_zero]; rfl) ?_ ?_ ?_ ?_ ?_; rotate_left; (focus rfl); (focus (intro W hSW; (try dsimp only at hSW); (try (obtain ⟨hS1, hSW⟩ := hSW)); (try (obtain ⟨hS2, hSW⟩ := hSW)); (try (obtain ⟨hS3, hSW⟩ := hSW)); (try (obtain ⟨hS4, hSW⟩ := hSW)); (try (obtain ⟨hS5, hSW⟩ := hSW)); go_simp; (try with_reducible rfl); done)); (focus exact fun _ _ _ h => h); (focus assumption)) | (refine TR.skip _ (by simp only [List.getElem?_toArray, List.getElem?_cons_succ, List.getElem?_cons_zero]; rfl) ?_ ?_ ?_ ?_; (focus rfl); (focus exact fun _ _ _ h => h); (focus assumption))); simp only [Act.put, List.setIfInBounds_toArray, List.set_cons_zero, List.set_cons_succ])
      refine TR.done ?_
      go_wp2
      go_roundw
      case rel => exact ⟨k + 1, A1, c1, hlt, by go_num, rfl, ho1, below_app (hbd.alloc hbd.size _) hg1 (HOD.out.alloc _) (Nat.le_refl _) (by simp; exact Nat.le_succ_of_le hbd.size)⟩
      case measure => simp [intOf]; omega
    · obtain rfl : k = 32 := by omega
      have HT := Lib.hid (show ds.take 32 = ds by rw [List.take_of_length_le (by rw [HLN.out]; exact Nat.le_refl _)])
      rw [HT.out] at ho
      have hs := run_str (c := c) ho.reads
      go_wp2
      go_ret
      exact ⟨rfl, hb⟩
end Go.Proofs.Ytlbiinkidecfbaa
