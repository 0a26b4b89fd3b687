/-
  Nets: the library's functions over packets.
-/
import Derived.Test.YthajlhifgafpkaaNetB
import Derived.Deep.DeepFit
import Derived.Shelf.Abstract
namespace Go.Proofs.Ythajlhifgafpkaa
open Go.RowKit Go.Shelf
def idxI (p : Pk → Bool) (l : List Pk) : Int := match l.findIdx? p with
  | none => -1
  | some i => (i : Int)
theorem idxI_none {p : Pk → Bool} {l : List Pk} (h : ∀ (j : Nat) (x : Pk), l[j]? = some x → p x = false) : idxI p l = -1 := by
  rw [idxI, List.findIdx?_eq_none_iff.2 fun x hx => by
    obtain ⟨j, hj⟩ := List.getElem?_of_mem hx
    exact h j x hj]
theorem idxI_some {p : Pk → Bool} {l : List Pk} {k : Nat} {x : Pk} (hk : l[k]? = some x) (hx : p x = true) (h : ∀ (j : Nat) (y : Pk), j < k → l[j]? = some y → p y = false) : idxI p l = (k : Int) := by
  obtain ⟨hl, he⟩ := List.getElem?_eq_some_iff.1 hk
  rw [idxI, List.findIdx?_eq_some_iff_getElem.2 ⟨hl, by rw [he]; exact hx, fun j hj => by
    have := h j l[j] hj (List.getElem?_eq_getElem (by omega))
    simp [this]⟩]
theorem add_lit2 (g o j : Nat) : (⟨g, o, none⟩ : Addr).add j = ⟨g, o + j, none⟩ := by unfold Addr.add; split <;> simp_all
/-- A packet of a row, with its cells. -/
theorem PkRow.at_ {W : World} {base n c k : Nat} {A : Option Addr} {vs : List PkV} (h : PkRow W base A n c vs) (hk : k < n) :
    ∃ g v, A = some ⟨g, 0, none⟩ ∧ base ≤ g ∧ g < W.heap.size ∧ vs[k]? = some v ∧ ∀ W' : World, W'.heap[g]? = W.heap[g]? → ∀ (j : Nat) (u : Value), v.cells[j]? = some u → W'.cell? ((⟨g, k * 5, none⟩ : Addr).add j) = some u := by
  have hl : k < vs.length := by rw [h.len]; exact hk
  obtain ⟨g, cap, hv, hb, hlt⟩ := h.row.form (by omega)
  have hA : A = some ⟨g, 0, none⟩ := by injection hv
  subst hA
  refine ⟨g, vs[k], rfl, hb, hlt, List.getElem?_eq_getElem hl, fun W' hW j u hu => ?_⟩
  have hj : j < 5 := (List.getElem?_eq_some_iff.1 hu).1
  have h1 := h.row.cells (g := g) rfl (k * 5 + j) u (by rw [flat_at PkV.cells_len vs (List.getElem?_eq_getElem hl) hj]; exact hu)
  have e1 : (⟨g, k * 5, none⟩ : Addr).add j = (⟨g, 0, none⟩ : Addr).add (k * 5 + j) := by rw [add_lit2, add_lit2, Nat.zero_add]
  rw [e1]
  have hb2 : ((⟨g, 0, none⟩ : Addr).add (k * 5 + j)).block = g := block_of_add _ _
  exact (World.cell?_of_block (by rw [hb2]; exact hW)).trans h1
set_option maxRecDepth 100000 in
set_option maxHeartbeats 2000000 in
theorem index_v (F : FuncId) (caps : List Value) (p : Pk → Bool) (base : Nat) (A : Option Addr) (n c : Nat) (vs : List PkV) (w : World) (h : PkRow w base A n c vs) (hn : n ≤ 1000000) (hen : ∀ args W, (callFunc F args).run Try.prog W = .ok (.enter F args) W)
    (hF : ∀ v ∈ vs, ∀ V, Below w.heap.size w V → Calls Try.prog F (.agg v.cells.toArray :: caps).toArray V fun e V' => e = .returned (.bool (p v.pk)) ∧ Below V.heap.size V V') :
    Calls Try.prog 56 #[.slice A n c, .func (.func F) #[] caps.toArray] w fun e w' => e = .returned (.int .i64 (idxI p (vs.map (·.pk)))) ∧ Below w.heap.size w w' := by
  have H := Lib.hid h
  have HF := Lib.hid hF
  have HL := Lib.hid h.len
  clear h hF
  have HI := Lib.hid (show (Try.prog.info? 34).map (·.size) = some 5 by kernel_rfl)
  go_enter Try.func56, Try.ntmps56
  go_wp2
  go_loopw [8] (fun i wr => ∃ k : Nat, k ≤ n ∧ i = .int .i64 (k : Int) ∧ (∀ (j : Nat) (y : Pk), j < k → (vs.map (·.pk))[j]? = some y → p y = false) ∧ Below w.heap.size w wr) (fun i _ => n - (intOf i).toNat)
  case atStart => exact ⟨0, Nat.zero_le _, rfl, fun j y hj => absurd hj (Nat.not_lt_zero _), Below.refl _ _⟩
  case round =>
    obtain ⟨k, hk, rfl, hne, hb⟩ := hrel
    have HNE := Lib.hid hne
    have HB := Lib.hid hb
    clear hne hb
    by_cases hlt : k < n
    · have d1 : decide (k < n) = true := by simpa using hlt
      obtain ⟨g, v, rfl, hbg, hgl, hv, hc⟩ := H.out.at_ hlt
      have HV := Lib.hid hv
      have HC := Lib.hid (hc wr (HB.out.block g hgl))
      have CF := Lib.hid (HF.out v (List.mem_of_getElem? hv) wr HB.out)
      clear hv hc hbg hgl
      have k0 : (0 : Int) ≤ (k : Int) := by omega
      go_wp2_with (first
        | (refine wpList_load_slot rfl 34 (.tmp 14) rfl ⟨g, k * 5, none⟩ rfl v.cells _ HC.out Try.underlying34 rfl HI.out ?_)
        | fail)
      refine CF.out.mono ?_
      clear CF
      cases hp : p v.pk
      · have HP := Lib.hid hp
        clear hp
        rintro e w1 ⟨rfl, hb1⟩
        have HB1 := Lib.hid (HB.out.trans (hb1.mono HB.out.size))
        clear hb1
        go_wp2
        go_roundw
        case rel =>
          refine ⟨k + 1, by omega, by go_num, fun j y hj hy => ?_, HB1.out⟩
          rcases Nat.lt_succ_iff_lt_or_eq.1 hj with h1 | rfl
          · exact HNE.out j y h1 hy
          · rw [List.getElem?_map, HV.out] at hy
            injection hy with hy
            rw [← hy]; exact HP.out
        case measure => simp [intOf]; omega
      · have HR := Lib.hid (idxI_some (p := p) (l := vs.map (·.pk)) (k := k) (x := v.pk) (by rw [List.getElem?_map, HV.out]; rfl) hp HNE.out)
        clear hp
        rintro e w1 ⟨rfl, hb1⟩
        have HB1 := Lib.hid (HB.out.trans (hb1.mono HB.out.size))
        clear hb1
        go_wp2
        go_ret
        exact ⟨by rw [HR.out]; rfl, HB1.out⟩
    · obtain rfl : k = n := by omega
      have d1 : decide (k < k) = false := by simp
      have HR := Lib.hid (idxI_none fun j x hj => HNE.out j x (by rw [← HL.out, ← List.length_map (f := (·.pk))]; exact (List.getElem?_eq_some_iff.1 hj).1) hj)
      go_wp2
      go_ret
      exact ⟨by rw [HR.out]; rfl, HB.out⟩
set_option maxHeartbeats 1000000 in
theorem find1_v (v : PkV) (num : Nat) (ad : Addr) (w : World) (hc : w.cell? ad = some (.int .u64 (num : Int))) (hlt : ad.block < w.heap.size) :
    Calls Try.prog 57 #[.agg v.cells.toArray, .pointer (some ad)] w fun e w' => e = .returned (.bool (v.pk.num == num)) ∧ Below w.heap.size w w' := by
  obtain ⟨⟨pn, pf, pt, pr, pb⟩, a, len, cap⟩ := v
  have hc1 : (w.alloc (.cells #[.int .u64 (pn : Int), .int .i64 pf, .int .i64 pt, .int .u64 (pr : Int), .slice a len cap] 34)).cell? ad = some (.int .u64 (num : Int)) := (World.cell?_alloc_lt w _ ad hlt).trans hc
  clear hc
  have e1 : ((pn : Int) == (num : Int)) = (pn == num) := by rw [Bool.eq_iff_iff]; simp; omega
  show Calls Try.prog _ #[.agg #[.int .u64 (pn : Int), .int .i64 pf, .int .i64 pt, .int .u64 (pr : Int), .slice a len cap], .pointer (some ad)] w _
  go_enter Try.func57, Try.ntmps57
  go_wp2
  go_ret
  exact ⟨by rw [← e1]; rfl, (Below.refl _ _).alloc (Nat.le_refl _) _⟩
set_option maxHeartbeats 1000000 in
theorem find_v {base g mb n c : Nat} {A : Option Addr} {vs : List PkV} {s : NS} (num : Nat) (w : World) (h : NetIs w base g mb A n c vs s) (hn : n ≤ 4096) :
    Calls Try.prog 39 #[.pointer (some ⟨g, 0, none⟩), .int .u64 (num : Int)] w fun e w' => e = .returned (.int .i64 (idxI (fun p => p.num == num) s.fl)) ∧ Below w.heap.size w w' := by
  have H := Lib.hid h
  have HV := Lib.hid h.hv
  clear h
  have B1 := Lib.hid ((Below.refl w.heap.size w).alloc (Nat.le_refl _) (.cells #[.int .u64 (num : Int)] 28))
  have H1 := Lib.hid (H.out.below B1.out)
  have c1 := H1.out.c1
  have HC := Lib.hid (cell_new w #[.int .u64 (num : Int)] 28 0)
  have hz : w.heap.size < (w.alloc (.cells #[.int .u64 (num : Int)] 28)).heap.size := by simp
  go_enter Try.func39, Try.ntmps39
  go_wp2_with fail
  generalize w.alloc (.cells #[.int .u64 (num : Int)] 28) = w1 at *
  refine (index_v 57 [.pointer (some ⟨w.heap.size, 0, none⟩)] (fun p => p.num == num) base A n c vs w1 H1.out.hf (by omega) (fun args W => enters_of Try.func57 (by kernel_rfl) rfl args W)
    (fun v _ V hV => find1_v v num _ V ((hV.cell (p := ⟨w.heap.size, 0, none⟩) hz).trans HC.out) (Nat.lt_of_lt_of_le hz hV.size))).mono ?_
  rw [HV.out]
  rintro e w2 ⟨rfl, hb2⟩
  have B2 := Lib.hid (B1.out.trans (hb2.mono (Nat.le_of_lt hz)))
  go_wp2
  go_ret
  exact ⟨rfl, B2.out⟩
end Go.Proofs.Ythajlhifgafpkaa
