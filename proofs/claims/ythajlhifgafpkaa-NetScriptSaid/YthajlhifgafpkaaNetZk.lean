/-
  Nets: the kit's comparison of packets, where they are the same.
-/
import Derived.Test.YthajlhifgafpkaaNetZh
import Derived.Deep.QuietTactic
namespace Go.Proofs.Ythajlhifgafpkaa
open Go.RowKit Go.Shelf
theorem add_field (a : Addr) (m j : Nat) (h : 0 < j) : a.add (m + j) = ⟨(a.add m).block, (a.add m).off + j, none⟩ := by
  rw [add_pos a (m + j) (by omega), block_of_add]
  unfold Addr.add
  by_cases hm : m = 0
  · subst hm; simp
  · rw [if_neg hm]; simp; omega
/-- A slice of packets reads as these, each with its bytes. -/
def PReads (w : World) (B : Nat) (A : Option Addr) (n : Nat) (vs : List PkV) : Prop := Reads w B 5 A n (vs.flatMap PkV.cells) ∧ ∀ v ∈ vs, BReads w B v.a v.len v.pk.bytes
section
variable {w w' : World} {B n : Nat} {A : Option Addr} {vs : List PkV}
theorem PReads.len (h : PReads w B A n vs) : vs.length = n := by
  have h1 := h.1.1
  rw [flat_len PkV.cells_len] at h1
  omega
theorem PReads.below (h : PReads w B A n vs) (hb : Below B w w') : PReads w' B A n vs := ⟨Reads.below h.1 hb, fun v hv => Reads.below (h.2 v hv) hb⟩
theorem PReads.more {B' : Nat} (h : PReads w B A n vs) (hB : B ≤ B') : PReads w B' A n vs := ⟨Reads.more h.1 hB, fun v hv => Reads.more (h.2 v hv) hB⟩
theorem PReads.step (h : PReads w w.heap.size A n vs) (hb : Below w.heap.size w w') : PReads w' w'.heap.size A n vs := (h.below hb).more hb.size
theorem PReads.at_ {k : Nat} (h : PReads w B A n vs) (hk : k < n) : ∃ ad v, A = some ad ∧ ad.block < B ∧ vs[k]? = some v ∧
    w.cell? (ad.add (k * 5)) = some (.int .u64 (v.pk.num : Int)) ∧ w.cell? ⟨(ad.add (k * 5)).block, (ad.add (k * 5)).off + 1, none⟩ = some (.int .i64 v.pk.frm) ∧ w.cell? ⟨(ad.add (k * 5)).block, (ad.add (k * 5)).off + 2, none⟩ = some (.int .i64 v.pk.too) ∧
    w.cell? ⟨(ad.add (k * 5)).block, (ad.add (k * 5)).off + 3, none⟩ = some (.int .u64 (v.pk.run : Int)) ∧ w.cell? ⟨(ad.add (k * 5)).block, (ad.add (k * 5)).off + 4, none⟩ = some (.slice v.a v.len v.cap) ∧ BReads w B v.a v.len v.pk.bytes := by
  have hkl : k < vs.length := by rw [h.len]; exact hk
  obtain ⟨ad, e, hb, hc⟩ := h.1.2 (by omega)
  have hx : vs[k]? = some vs[k] := List.getElem?_eq_getElem hkl
  have hcell : ∀ j u, j < 5 → (vs[k]).cells[j]? = some u → w.cell? (ad.add (k * 5 + j)) = some u := fun j u hj hu => hc _ _ (by rw [flat_at PkV.cells_len vs hx hj]; exact hu)
  refine ⟨ad, vs[k], e, hb, hx, hcell 0 _ (by omega) rfl, ?_, ?_, ?_, ?_, h.2 _ (List.getElem_mem hkl)⟩
  · rw [← add_field _ _ _ (by omega)]; exact hcell 1 _ (by omega) rfl
  · rw [← add_field _ _ _ (by omega)]; exact hcell 2 _ (by omega) rfl
  · rw [← add_field _ _ _ (by omega)]; exact hcell 3 _ (by omega) rfl
  · rw [← add_field _ _ _ (by omega)]; exact hcell 4 _ (by omega) rfl
end
/-- One new packet. -/
theorem PReads.one (w : World) (v : PkV) (T : TypeId) (cs : Array Value) (hcs : cs = v.cells.toArray) (hb : BReads w w.heap.size v.a v.len v.pk.bytes) : PReads (w.alloc (.cells cs T)) (w.heap.size + 1) (some ⟨w.heap.size, 0, none⟩) 1 [v] := by
  subst hcs
  refine ⟨⟨rfl, fun _ => ⟨_, rfl, Nat.lt_succ_self _, fun j u hu => ?_⟩⟩, fun x hx => ?_⟩
  · have hp : (⟨w.heap.size, 0, none⟩ : Addr).add j = ⟨w.heap.size, j, none⟩ := by unfold Addr.add; split <;> simp_all
    rw [hp, World.cell?_alloc_mark]
    simpa using hu
  · rw [List.mem_singleton.1 hx]
    exact Reads.more (Reads.alloc hb (Nat.le_refl _) _) (Nat.le_succ _)
set_option maxRecDepth 100000 in
set_option maxHeartbeats 4000000 in
theorem packs_same (A1 A2 : Option Addr) (n c1 c2 : Nat) (vs us : List PkV) (w : World) (h1 : PReads w w.heap.size A1 n vs) (h2 : PReads w w.heap.size A2 n us) (he : vs.map (·.pk) = us.map (·.pk)) (hn : n ≤ 9223372036854775807) :
    Calls Try.prog 21 #[.slice A1 n c1, .slice A2 n c2] w fun e w' => e = .returned (.bool true) ∧ Below w.heap.size w w' := by
  have H1 := Lib.hid h1
  have H2 := Lib.hid h2
  have HE := Lib.hid he
  clear h1 h2 he
  go_enter Try.func21, Try.ntmps21
  go_wp2_with fail
  go_loopw [5] (fun i wr => ∃ k : Nat, k ≤ n ∧ i = .int .i64 (k : Int) ∧ Below w.heap.size w wr) (fun i _ => n - (intOf i).toNat)
  case atStart => exact ⟨0, Nat.zero_le _, rfl, Below.refl _ _⟩
  case round =>
    obtain ⟨k, hk, rfl, hb⟩ := hrel
    have HB := Lib.hid hb
    clear hb
    by_cases hlt : k < n
    · obtain ⟨ad, v, rfl, _, hv, a0, a1, a2, a3, a4, ab⟩ := (H1.out.below HB.out).at_ hlt
      obtain ⟨bd, u, rfl, _, hu, b0, b1, b2, b3, b4, bb⟩ := (H2.out.below HB.out).at_ hlt
      have hpk : v.pk = u.pk := by
        have := congrArg (fun l => l[k]?) HE.out
        simpa [List.getElem?_map, hv, hu] using this
      rw [← hpk] at b0 b1 b2 b3 bb
      have q1 : ∀ q, (convert 22 9 (.slice v.a v.len v.cap)).run Try.prog (wr.drewN q) = .ok (.string ⟨v.pk.bytes.toArray⟩) (wr.drewN q) := fun q => run_str (Reads.drewN ab q)
      have q2 : ∀ q, (convert 22 9 (.slice u.a u.len u.cap)).run Try.prog (wr.drewN q) = .ok (.string ⟨v.pk.bytes.toArray⟩) (wr.drewN q) := fun q => run_str (Reads.drewN bb q)
      have k0 : (0 : Int) ≤ (k : Int) := by omega
      have d0 : decide (k < n) = true := by simpa using hlt
      clear hv hu hpk ab bb
      generalize (⟨v.pk.bytes.toArray⟩ : ByteArray) = sb at q1 q2
      generalize v.pk.num = x0 at *
      generalize v.pk.frm = x1 at *
      generalize v.pk.too = x2 at *
      generalize v.pk.run = x3 at *
      go_wp2_with fail
      go_quiet (fail)
      go_wp2_with fail
      go_roundw
      case rel => exact ⟨k + 1, hlt, by go_num, below_drewN HB.out _⟩
      case measure => simp [intOf]; omega
    · obtain rfl : k = n := by omega
      go_wp2_with fail
      go_ret
      exact ⟨rfl, HB.out⟩
end Go.Proofs.Ythajlhifgafpkaa
