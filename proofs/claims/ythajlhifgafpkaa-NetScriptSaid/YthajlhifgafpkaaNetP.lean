/-
  Nets: Flight, where nothing is in flight.
-/
import Derived.Test.YthajlhifgafpkaaNetJ
import Derived.RangeFuncNested
import Derived.RangeFuncBound
import Derived.RangeFuncCalls
import Derived.RangeFuncLeaves
import Derived.RangeFuncFrom
import Derived.Shelf.Abstract
import Derived.Shelf.RegionOpen
import Derived.OwnWalkIn
import Derived.TacticsInMore
import Derived.LoopNIn
import Derived.LoopIn
namespace Go.Proofs.Ythajlhifgafpkaa
open Go.RowKit Go.Shelf
attribute [local go_sem] Oper.semAt_some
abbrev Ix (m : Nat) := { k : Nat // k < m }
set_option maxRecDepth 100000 in
set_option maxHeartbeats 2000000 in
theorem packs0 (b g : Nat) (A : Option Addr) (c : Nat) (w : World) (m : Nat) (hb : b < w.heap.size) (hg : g < w.heap.size) (cb : w.cell? ⟨b, 0, none⟩ = some (.pointer (some ⟨g, 0, none⟩))) (cg : w.cell? ⟨g, 1, none⟩ = some (.slice A 0 c)) :
    SeqStopsK Fence.wide m Try.prog 59 #[.pointer (some ⟨b, 0, none⟩)] (fun _ : Ix 0 => #[Value.nilFunc]) (fun _ _ => True) (fun xs => xs = []) (fun _ => False) 0 w := fun l J Jx W hW hJ hJx hY h0 => by
  have wcb : W.cell? ⟨b, 0, none⟩ = some (.pointer (some ⟨g, 0, none⟩)) := (hW.cell (p := ⟨b, 0, none⟩) hb).trans cb
  have wcg : W.cell? ⟨g, 1, none⟩ = some (.slice A 0 c) := (hW.cell (p := ⟨g, 1, none⟩) hg).trans cg
  clear cb cg
  refine callsIn_of_wp Try.func59 rfl trivial ?_ rfl
  simp only [Try.ntmps59, List.size_toArray, List.length_cons, List.length_nil, Nat.reduceAdd, Nat.reduceSub, Array.replicate_succ, Array.replicate_zero, List.push_toArray, List.append_toArray, List.nil_append, List.cons_append]
  gi_wp2
  gi_loopw [10] (fun i wr => i = .int .i64 0 ∧ J [] wr) (fun _ _ => 0)
  case atStart => exact ⟨rfl, h0⟩
  case round =>
    obtain ⟨rfl, hj⟩ := hrel
    gi_wp2
    go_end0
    exact ⟨⟨_, rfl⟩, .inl ⟨[], rfl, hj⟩⟩
set_option maxRecDepth 100000 in
set_option maxHeartbeats 2000000 in
theorem append0 (b g : Nat) (A : Option Addr) (c : Nat) (w : World) (hb : b < w.heap.size) (hg : g < w.heap.size) (cb : w.cell? ⟨b, 0, none⟩ = some (.pointer (some ⟨g, 0, none⟩))) (cg : w.cell? ⟨g, 1, none⟩ = some (.slice A 0 c)) :
    Calls Try.prog 58 #[.slice none 0 0, .func (.func 59) #[] #[.pointer (some ⟨b, 0, none⟩)]] w fun e w' => e = .returned (.slice none 0 0) ∧ Below w.heap.size w w' := by
  refine (callsIn_wide (n := 9)).1 ?_
  refine callsIn_of_wp_marks Try.func58 rfl trivial ?_ rfl
  simp only [Try.ntmps58, List.size_toArray, List.length_cons, List.length_nil, Nat.reduceAdd, Nat.reduceSub, Array.replicate_succ, Array.replicate_zero, List.push_toArray, List.append_toArray, List.nil_append, List.cons_append]
  gi_wp2_with fail
  have BA := Lib.hid ((Below.refl w.heap.size w).alloc (Nat.le_refl _) (.cells #[.slice none 0 0] 44))
  have c0 := cell_new w #[.slice none 0 0] 44 0
  have cb2 := (cell_old w (.cells #[.slice none 0 0] 44) b 0 hb).trans cb
  have cg2 := (cell_old w (.cells #[.slice none 0 0] 44) g 1 hg).trans cg
  have hz : (w.alloc (.cells #[.slice none 0 0] 44)).heap.size = w.heap.size + 1 := by simp
  clear cb cg
  generalize w.alloc (.cells #[.slice none 0 0] 44) = w1 at *
  refine wpIn_rangeFunc_ownF rfl (by omega) (gf := 59) (lb := #[.pointer (some ⟨b, 0, none⟩)]) rfl trivial (enters_of Try.func59 (by kernel_rfl) rfl)
    (packs0 b g A c w1 _ (by omega) (by omega) cb2 cg2) (fun _ _ => trivial) (fun _ _ _ _ _ _ _ _ => trivial) (Below.refl _ _) (fun _ => rfl)
    (fun _ W => W.cell? ⟨w.heap.size, 0, none⟩ = some (.slice none 0 0) ∧ Below w.heap.size w W) (fun _ _ _ => False)
    (fun pre W W' row h hg hr => ?own) (fun _ _ _ _ _ hs _ _ => hs) ⟨c0, BA.out⟩
    (fun x => absurd x.2 (Nat.not_lt_zero _)) ?assign ?body ?done ?stop
  case assign => exact fun l x => absurd x.2 (Nat.not_lt_zero _)
  case body => exact fun l pre x => absurd x.2 (Nat.not_lt_zero _)
  case own =>
    have hlt := World.block_lt_of_cell? W _ h.1
    refine ⟨(World.cell?_of_block (hg.block w.heap.size hlt (fun e => by have := (hr _ e.symm).1; omega))).trans h.1, h.2.grown hg h.2.size (fun k hk => by have := (hr k hk).1; omega)⟩
  case done =>
    rintro D xs W hD _ ⟨hc, hbw⟩ hK
    gi_wp2_with fail
    refine ⟨by simp, .inl ⟨_, _, rfl, run_takeDeferred hK, ?_⟩⟩
    refine ⟨_, results_tmp rfl _ _ _, rfl, ?_⟩
    exact hbw.trans ((belowK_b (w := w1) (Nat.le_refl _) _ D _ _ (by omega) hK rfl rfl).mono (by omega))
  case stop =>
    rintro D c pre W _ h _ _
    exact h.elim
set_option maxHeartbeats 2000000 in
theorem flight0_v {base g mb c : Nat} {A : Option Addr} {vs : List PkV} {s : NS} (w : World) (h : NetIs w base g mb A 0 c vs s) :
    Calls Try.prog 17 #[.pointer (some ⟨g, 0, none⟩)] w fun e w' => e = .returned (.slice none 0 0) ∧ Below w.heap.size w w' := by
  have H := Lib.hid h
  have c1 := h.c1
  have hgl := h.lt
  clear h
  go_enter Try.func17, Try.ntmps17
  go_wp2_with fail
  refine (right_v w H.out).mono ?_
  rintro e _ ⟨rfl, rfl⟩
  have PV : Calls Try.prog 42 #[.pointer (some ⟨g, 0, none⟩)] w fun e w' => e = .returned (.func (.func 59) #[] #[.pointer (some ⟨w.heap.size, 0, none⟩)]) ∧ w' = w.alloc (.cells #[.pointer (some ⟨g, 0, none⟩)] 24) := by
    clear H c1 hgl
    go_enter Try.func42, Try.ntmps42
    go_wp2
    go_ret
    exact ⟨rfl, rfl⟩
  go_wp2_with fail
  refine PV.mono ?_
  rintro e w1 ⟨rfl, rfl⟩
  have BA := Lib.hid ((Below.refl w.heap.size w).alloc (Nat.le_refl _) (.cells #[.pointer (some ⟨g, 0, none⟩)] 24))
  have cb := cell_new w #[.pointer (some ⟨g, 0, none⟩)] 24 0
  have cg := (cell_old w (.cells #[.pointer (some ⟨g, 0, none⟩)] 24) g 1 hgl).trans c1
  have hz : (w.alloc (.cells #[.pointer (some ⟨g, 0, none⟩)] 24)).heap.size = w.heap.size + 1 := by simp
  have AV := Lib.hid (append0 w.heap.size g A c (w.alloc (.cells #[.pointer (some ⟨g, 0, none⟩)] 24)) (by omega) (by omega) cb cg)
  clear cb cg PV
  generalize w.alloc (.cells #[.pointer (some ⟨g, 0, none⟩)] 24) = w1 at *
  have CV : Calls Try.prog 41 #[.func (.func 59) #[] #[.pointer (some ⟨w.heap.size, 0, none⟩)]] w1 fun e w' => e = .returned (.slice none 0 0) ∧ Below w1.heap.size w1 w' := by
    clear H c1 hgl BA
    go_enter Try.func41, Try.ntmps41
    go_wp2_with fail
    refine AV.out.mono ?_
    rintro e w2 ⟨rfl, hb⟩
    go_wp2
    go_ret
    exact ⟨rfl, hb⟩
  go_wp2_with fail
  refine CV.mono ?_
  rintro e w2 ⟨rfl, hb⟩
  go_wp2
  go_ret
  exact ⟨rfl, BA.out.trans (hb.mono (by omega))⟩
end Go.Proofs.Ythajlhifgafpkaa
