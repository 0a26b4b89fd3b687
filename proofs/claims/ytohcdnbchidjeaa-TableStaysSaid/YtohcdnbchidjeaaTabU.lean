/-
  Tables in memory: Next, Of.
-/
import Derived.Test.YtohcdnbchidjeaaTabT
namespace Go.Proofs.Ytohcdnbchidjeaa
open Go.RowKit
def nextR : List KV → Value
  | [] => .tuple #[.agg #[.string ⟨#[]⟩, .string ⟨#[]⟩, .bool false], .bool false]
  | x :: _ => .tuple #[.agg #[.string x.1, .string x.2, .bool false], .bool true]
def nextL (t : Tr) (q : ByteArray) : List KV := (goU (rangeStep ⟨#[]⟩ 1) (t.sel (q ++ kzero)) []).1
set_option maxHeartbeats 1000000 in
theorem next_v (q : ByteArray) (t : Tr) (B : Nat) (p : Option Addr) (w : World) (h : Rep w B t p) (hB : B ≤ w.heap.size) (hn : t.cnt ≤ 1000000) (hq : q.size ≤ 140737488355328) :
    Calls Try.prog 27 #[.agg #[.pointer p], .string q] w fun e w' => e = .returned (nextR (nextL t q)) ∧ Below w.heap.size w w' := by
  have HR := Lib.hid (Rep.alloc (Rep.alloc h hB (.cells #[.pointer p] 24)) (by simp; omega) (.cells #[.string ⟨#[]⟩, .string ⟨#[]⟩, .bool false] 39))
  have E1 := Lib.hid (show Below w.heap.size w ((w.alloc (.cells #[.pointer p] 24)).alloc (.cells #[.string ⟨#[]⟩, .string ⟨#[]⟩, .bool false] 39)) from ((Below.refl _ _).alloc (Nat.le_refl _) _).alloc (by simp) _)
  have HSZ := Lib.hid (show ((w.alloc (.cells #[.pointer p] 24)).alloc (.cells #[.string ⟨#[]⟩, .string ⟨#[]⟩, .bool false] 39)).heap.size = w.heap.size + 1 + 1 by simp)
  have HC := fun o (u : Value) (hu : (#[Value.string ⟨#[]⟩, .string ⟨#[]⟩, .bool false] : Array Value)[o]? = some u) => show ((w.alloc (.cells #[.pointer p] 24)).alloc (.cells #[.string ⟨#[]⟩, .string ⟨#[]⟩, .bool false] 39)).cell? ⟨w.heap.size + 1, o, none⟩ = some u by
    rw [World.cell?_alloc_at _ _ _ _ (by simp)]; exact hu
  have HF := fun o => show ((w.alloc (.cells #[.pointer p] 24)).alloc (.cells #[.string ⟨#[]⟩, .string ⟨#[]⟩, .bool false] 39)).frozen? ⟨w.heap.size + 1, o, none⟩ = false from World.frozen?_alloc_at _ _ _ _ (by simp)
  have C0 := Lib.hid (HC 0 _ rfl)
  have C1 := Lib.hid (HC 1 _ rfl)
  have C2 := Lib.hid (HC 2 _ rfl)
  have F0 := Lib.hid (HF 0)
  have F1 := Lib.hid (HF 1)
  have F2 := Lib.hid (HF 2)
  clear h HC HF
  go_enter Try.func27, Try.ntmps27
  go_wp2_with fail
  generalize ((w.alloc (.cells #[.pointer p] 24)).alloc (.cells #[.string ⟨#[]⟩, .string ⟨#[]⟩, .bool false] 39)) = W0 at *
  refine (range_v (q ++ kzero) ⟨#[]⟩ 1 t B p W0 HR.out (by have := HSZ.out; omega) hn).mono ?_
  rintro e w1 ⟨A, c, rfl, ho, hb⟩
  have hlt : w.heap.size + 1 < W0.heap.size := by have := HSZ.out; omega
  have c0 := keepC hb C0.out hlt
  have c1 := keepC hb C1.out hlt
  have c2 := keepC hb C2.out hlt
  have f0 := keepF hb F0.out hlt
  have f1 := keepF hb F1.out hlt
  have f2 := keepF hb F2.out hlt
  have HB := Lib.hid (E1.out.trans (hb.mono (by have := HSZ.out; omega)))
  have HL : Hid (nextL t q = (goU (rangeStep ⟨#[]⟩ 1) (t.sel (q ++ kzero)) []).1) := Lib.hid rfl
  have HO := Lib.hid ho
  have hlen : (pvs (goU (rangeStep ⟨#[]⟩ 1) (t.sel (q ++ kzero)) []).1).length < 1000000000 := by
    unfold pvs
    rw [List.length_map, range_go]
    simp
    omega
  clear hb ho hlt C0 C1 C2 F0 F1 F2 HSZ E1
  generalize (goU (rangeStep ⟨#[]⟩ 1) (t.sel (q ++ kzero)) []).1 = l at *
  cases l with
  | nil =>
    have hz : (pvs []).length = 0 := rfl
    rw [hz] at *
    clear hz
    go_wp2
    refine bodyPost_ret (v := nextR []) (by simp [results, Try.results27, go_sem, c0, c1, c2, nextR]) rfl ?_
    rw [HL.out]
    exact ⟨rfl, ((HB.out.setCell (by simp) _).setCell (by simp) _).setCell (by simp) _⟩
  | cons x l =>
    have hr := PReads.at_ HO.out.reads (k := 0) (by simp [pvs])
    obtain ⟨ad, y, rfl, _, hy, k0, k1, k2⟩ := hr
    obtain rfl : y = pv x := by simpa [pvs] using hy.symm
    rw [Nat.zero_mul, add_zero] at k0 k1 k2
    have hp : 0 < (pvs (x :: l)).length := by simp [pvs]
    clear hy HO
    generalize (pvs (x :: l)).length = n at *
    have hp' : (0 : Int) < (n : Int) := by omega
    have g0 : ((n : Int) == 0) = false := by rw [beq_eq_false_iff_ne]; omega
    go_wp2
    refine bodyPost_ret (v := nextR (x :: l)) (by simp [results, Try.results27, go_sem, c0, c1, c2, nextR, pv]) rfl ?_
    rw [HL.out]
    exact ⟨rfl, ((HB.out.setCell (by simp) _).setCell (by simp) _).setCell (by simp) _⟩
end Go.Proofs.Ytohcdnbchidjeaa
