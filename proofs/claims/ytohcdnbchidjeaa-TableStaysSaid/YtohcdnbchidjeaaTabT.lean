/-
  Tables in memory: Range, Next.
-/
import Derived.Test.YtohcdnbchidjeaaTabR
namespace Go.Proofs.Ytohcdnbchidjeaa
open Go.RowKit
theorem run_f {f : FuncId} {fn : Func} {c : Code} (hf : Try.prog.funcs[f]? = some fn) (hname : (fn.name == "runtime.NumGoroutine") = false) (hb : fn.body = some c) : ∀ (args : Array Value) (w : World), (callFunc f args).run Try.prog w = .ok (.enter f args) w :=
  fun args w => by
    have h1 : fn.name ≠ "runtime.NumGoroutine" := by simpa using hname
    simp [callFunc, hf, h1, hb]
def SlPost (w : World) (l : List P3) (e : Ending) (w' : World) : Prop := ∃ A c, e = .returned (.slice A l.length c) ∧ POwn w' w.heap.size A l.length c l ∧ Below w.heap.size w w'
set_option maxHeartbeats 1000000 in
theorem range_v (fr to : ByteArray) (most : Int) (t : Tr) (B : Nat) (p : Option Addr) (w : World) (h : Rep w B t p) (hB : B ≤ w.heap.size) (hn : t.cnt ≤ 1000000) :
    Calls Try.prog 22 #[.agg #[.pointer p], .string fr, .string to, .int .i64 most] w (SlPost w (pvs (goU (rangeStep to most) (t.sel fr) []).1)) := by
  have e1 : Below w.heap.size w ((((w.alloc (.cells #[.pointer p] 24)).alloc (.cells #[.string to] 9)).alloc (.cells #[.int .i64 most] 3)).alloc (.cells #[.slice none 0 0] 33)) :=
    ((((Below.refl _ _).alloc (Nat.le_refl _) _).alloc (by simp) _).alloc (by simp; omega) _).alloc (by simp; omega) _
  have hR := Rep.below h (e1.mono hB)
  have hsz : ((((w.alloc (.cells #[.pointer p] 24)).alloc (.cells #[.string to] 9)).alloc (.cells #[.int .i64 most] 3)).alloc (.cells #[.slice none 0 0] 33)).heap.size = w.heap.size + 4 := by simp
  have ct : ((((w.alloc (.cells #[.pointer p] 24)).alloc (.cells #[.string to] 9)).alloc (.cells #[.int .i64 most] 3)).alloc (.cells #[.slice none 0 0] 33)).cell? ⟨w.heap.size + 1, 0, none⟩ = some (.string to) := by
    rw [World.cell?_alloc_lt _ _ _ (by simp), World.cell?_alloc_lt _ _ _ (by simp), World.cell?_alloc_at _ _ _ _ (by simp)]; rfl
  have cm : ((((w.alloc (.cells #[.pointer p] 24)).alloc (.cells #[.string to] 9)).alloc (.cells #[.int .i64 most] 3)).alloc (.cells #[.slice none 0 0] 33)).cell? ⟨w.heap.size + 1 + 1, 0, none⟩ = some (.int .i64 most) := by
    rw [World.cell?_alloc_lt _ _ _ (by simp), World.cell?_alloc_at _ _ _ _ (by simp)]; rfl
  have co : ((((w.alloc (.cells #[.pointer p] 24)).alloc (.cells #[.string to] 9)).alloc (.cells #[.int .i64 most] 3)).alloc (.cells #[.slice none 0 0] 33)).cell? ⟨w.heap.size + 1 + 1 + 1, 0, none⟩ = some (.slice none 0 0) := by
    rw [World.cell?_alloc_at _ _ _ _ (by simp)]; rfl
  have fo : ((((w.alloc (.cells #[.pointer p] 24)).alloc (.cells #[.string to] 9)).alloc (.cells #[.int .i64 most] 3)).alloc (.cells #[.slice none 0 0] 33)).frozen? ⟨w.heap.size + 1 + 1 + 1, 0, none⟩ = false := World.frozen?_alloc_at _ _ _ _ (by simp)
  have HR := Lib.hid hR
  have E1 := Lib.hid e1
  have HSZ := Lib.hid hsz
  have CT := Lib.hid ct
  have CM := Lib.hid cm
  have CO := Lib.hid co
  have FO := Lib.hid fo
  clear h hR e1 hsz ct cm co fo
  go_enter Try.func22, Try.ntmps22
  go_wp2_with fail
  generalize ((((w.alloc (.cells #[.pointer p] 24)).alloc (.cells #[.string to] 9)).alloc (.cells #[.int .i64 most] 3)).alloc (.cells #[.slice none 0 0] 33)) = W0 at *
  have hI0 : RangeI W0 (w.heap.size + 1 + 1 + 1) (0 + t.cnt) [] W0 := ⟨Below.refl _ _, by rw [HSZ.out]; omega, ⟨none, 0, CO.out, FO.out, POwn.nil_ _ _⟩, by simp; omega⟩
  have HF : Hid (∀ m s W b k v, RangeI W0 (w.heap.size + 1 + 1 + 1) (m + 1) s W → W.cell? ⟨b, 0, none⟩ = some (.string k) → W.cell? ⟨b, 1, none⟩ = some (.string v) → b < B →
      Calls Try.prog 45 (#[.pointer (some ⟨b, 0, none⟩)] ++ #[.pointer (some ⟨w.heap.size + 1 + 1 + 1, 0, none⟩), .pointer (some ⟨w.heap.size + 1 + 1, 0, none⟩), .pointer (some ⟨w.heap.size + 1, 0, none⟩)]) W fun e W' => e = .returned (.bool (rangeStep to most s (k, v)).2) ∧ RangeI W0 (w.heap.size + 1 + 1 + 1) m (rangeStep to most s (k, v)).1 W') :=
    Lib.hid fun m s W b k v hI h0 h1 _ => range1_v W0 (w.heap.size + 1 + 1 + 1) (w.heap.size + 1 + 1) (w.heap.size + 1) to most m s W b k v hI CM.out CT.out (by omega) (by omega) h0 h1
  have HE := Lib.hid (each_v (rangeStep to most) (RangeI W0 (w.heap.size + 1 + 1 + 1)) 45 _ B W0 (run_f Try.func45 (by kernel_rfl) rfl)
    (fun m s W h => h.1.mono (by omega)) (fun m m' s W hm h => ⟨h.1, h.2.1, h.2.2.1, by have := h.2.2.2; omega⟩) HF.out t p fr 0 [] W0 HR.out hI0)
  refine HE.out.mono ?_
  rintro e W1 ⟨rfl, hb1, hs1, ⟨A, c, hc1, _, ho1⟩, _⟩
  have HB1 := Lib.hid hb1
  have HO1 := Lib.hid ho1
  clear hb1 ho1 hI0
  go_wp2
  go_ret
  exact ⟨A, c, rfl, HO1.out.down (by omega), E1.out.trans (HB1.out.mono (by omega))⟩
end Go.Proofs.Ytohcdnbchidjeaa
