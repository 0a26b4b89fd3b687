/-
  Vectors: contracts of both sides in one form (VR).
-/
import Derived.Test.YtippojkdgecblaaDoorRvM
import Derived.Test.YtippojkdgecblaaDoorRvI
import Derived.Test.YtippojkdgecblaaDoorVecL
namespace Go.Proofs.YtippojkdgecblaaDoor
open Go.RowKit
section
variable {w w' : World} {A A1 A2 A3 : Option Addr} {n n1 n2 n3 c c1 c2 c3 : Nat} {l l1 l2 l3 : List (Int × Nat)}
theorem VR.nil_ (w : World) : VR w none 0 [] := ⟨Reads.none_, by omega, fun x hx => by cases hx⟩
theorem rcheck_r (h : VR w A n l) : Calls Tryd.prog 21 #[.slice A n c] w fun e w' => e = .returned (.int .i64 (if okV 0 l then 0 else 2)) ∧ Below w.heap.size w w' :=
  rcheck_v w.heap.size A n c l w h.r (Nat.le_refl _) h.n
theorem rval_r (h : VR w A n l) (d : Int) : Calls Tryd.prog 23 #[.slice A n c, .int .i64 d] w fun e w' => e = .returned (.int .u64 (val l d : Int)) ∧ w = w' :=
  rvalue_v w.heap.size A n c l d w h.r (Nat.le_refl _) h.n
theorem rcompare_r (h1 : VR w A1 n1 l1) (h2 : VR w A2 n2 l2) : Calls Tryd.prog 24 #[.slice A1 n1 c1, .slice A2 n2 c2] w fun e w' => e = .returned (.int .i64 (cmpV l1 l2)) ∧ Below w.heap.size w w' :=
  rcompare_v w.heap.size A1 A2 n1 c1 n2 c2 l1 l2 w h1.r h2.r (Nat.le_refl _) h1.n h2.n h1.f h2.f
theorem rorder_r (h1 : VR w A1 n1 l1) (h2 : VR w A2 n2 l2) : Calls Tryd.prog 25 #[.slice A1 n1 c1, .slice A2 n2 c2] w fun e w' => e = .returned (.int .i64 (ordV l1 l2)) ∧ Below w.heap.size w w' :=
  rorder_v w.heap.size A1 A2 n1 c1 n2 c2 l1 l2 w h1.r h2.r (Nat.le_refl _) h1.n h2.n h1.f h2.f
theorem rbump_r (h : VR w A n l) (d : Int) : Calls Tryd.prog 12 #[.slice A n c, .int .i64 d] w fun e w' => ∃ A' n' c', e = .returned (.tuple #[.slice A' n' c', .int .i64 (bumpE l d)]) ∧ VR w' A' n' (bumpV l d) ∧ Below w.heap.size w w' := by
  refine (rbump_v w.heap.size A n c l d w h.r (Nat.le_refl _) h.n h.f).mono ?_
  rintro e w' ⟨A', n', c', rfl, ho, hb⟩
  refine ⟨A', n', c', rfl, ?_, hb⟩
  have e1 : bumpV l d = if decide (bumpE l d = 0) then ofV (bumpF l d) else [] := by rw [bumpV]; simp
  rw [e1] at ho ⊢
  refine VR.own ho fun hd e => ?_
  have h0 := bump_ok (of_decide_eq_true hd)
  have h1 := fit_val l e h.f
  unfold bumpF
  split
  · rename_i h2
    subst h2
    have := h0.2.2.2.1
    omega
  · exact h1
theorem rmerge_r (vs : List Vec) (C : Array Value) (hC : C.toList = vs.map Vec.v) (k : Nat) (hk : vs.length = k) (hk9 : k ≤ 9) (h : ∀ v ∈ vs, VR w v.A v.n v.l) :
    Calls Tryd.prog 14 #[.slice (some ⟨w.heap.size, 0, none⟩) k k] (w.alloc (.cells C 23)) fun e w' => ∃ A' n' c', e = .returned (.tuple #[.slice A' n' c', .int .i64 (mergeE (vs.map Vec.l))]) ∧ VR w' A' n' (mergeV (vs.map Vec.l)) ∧ Below w.heap.size w w' := by
  subst hk
  refine (rmerge_v (w.heap.size + 1) _ vs.length vs.length vs _ (MReads.lit w w.heap.size vs C _ hC (Nat.le_refl _) fun v hv => ⟨(h v hv).r, (h v hv).n⟩) (by simp) (by omega) fun v hv => (h v hv).f).mono ?_
  rintro e w' ⟨A', n', c', rfl, ho, hb⟩
  refine ⟨A', n', c', rfl, ?_, ((Below.refl _ _).alloc (Nat.le_refl _) _).trans (hb.mono (by simp))⟩
  unfold mergeV at ho ⊢
  exact VR.own ho fun _ e => fit_merge _ e fun v hv => by
    obtain ⟨u, hu, rfl⟩ := List.mem_map.1 hv
    exact (h u hu).f
theorem rmerge2 (h1 : VR w A1 n1 l1) (h2 : VR w A2 n2 l2) : Calls Tryd.prog 14 #[.slice (some ⟨w.heap.size, 0, none⟩) 2 2] (w.alloc (.cells #[.slice A1 n1 c1, .slice A2 n2 c2] 23)) fun e w' => ∃ A' n' c', e = .returned (.tuple #[.slice A' n' c', .int .i64 (mergeE [l1, l2])]) ∧ VR w' A' n' (mergeV [l1, l2]) ∧ Below w.heap.size w w' := by
  refine rmerge_r [⟨A1, n1, c1, l1⟩, ⟨A2, n2, c2, l2⟩] #[.slice A1 n1 c1, .slice A2 n2 c2] rfl 2 rfl (by omega) fun v hv => ?_
  simp only [List.mem_cons, List.not_mem_nil, or_false] at hv
  rcases hv with rfl | rfl
  · exact h1
  · exact h2
theorem rmerge3 (h1 : VR w A1 n1 l1) (h2 : VR w A2 n2 l2) (h3 : VR w A3 n3 l3) : Calls Tryd.prog 14 #[.slice (some ⟨w.heap.size, 0, none⟩) 3 3] (w.alloc (.cells #[.slice A1 n1 c1, .slice A2 n2 c2, .slice A3 n3 c3] 23)) fun e w' => ∃ A' n' c', e = .returned (.tuple #[.slice A' n' c', .int .i64 (mergeE [l1, l2, l3])]) ∧ VR w' A' n' (mergeV [l1, l2, l3]) ∧ Below w.heap.size w w' := by
  refine rmerge_r [⟨A1, n1, c1, l1⟩, ⟨A2, n2, c2, l2⟩, ⟨A3, n3, c3, l3⟩] #[.slice A1 n1 c1, .slice A2 n2 c2, .slice A3 n3 c3] rfl 3 rfl (by omega) fun v hv => ?_
  simp only [List.mem_cons, List.not_mem_nil, or_false] at hv
  rcases hv with rfl | rfl | rfl
  · exact h1
  · exact h2
  · exact h3
def bytesC (l : List (Int × Nat)) : Int := if okV 0 l = true then 0 else 2
def bytesL (l : List (Int × Nat)) : Bl := if okV 0 l = true then vecB l else []
def textL (l : List (Int × Nat)) : Bl := if okV 0 l = true then textJ l else []
set_option maxHeartbeats 1000000 in
theorem bytes_no (h : VR w A n l) (ho : okV 0 l = false) :
    Calls Tryd.prog 15 #[.slice A n c] w fun e w' => e = .returned (.tuple #[.slice none 0 0, .int .i64 2]) ∧ Below w.heap.size w w' := by
  have HO := Lib.hid ho
  clear ho
  go_enter Tryd.func15, Tryd.ntmps15
  go_wp2_with fail
  refine (check_r h).mono ?_
  rw [HO.out]
  rintro e w1 ⟨rfl, hb1⟩
  go_wp2_with fail
  go_ret2
  exact ⟨rfl, hb1⟩
theorem bytes_b (h : VR w A n l) :
    Calls Tryd.prog 15 #[.slice A n c] w fun e w' => ∃ A' n' c', e = .returned (.tuple #[.slice A' n' c', .int .i64 (bytesC l)]) ∧ BReads w' w'.heap.size A' n' (bytesL l) ∧ Below w.heap.size w w' := by
  rw [bytesC, bytesL]
  cases ho : okV 0 l
  · refine (bytes_no h ho).mono ?_
    rintro e w' ⟨rfl, hb⟩
    exact ⟨none, 0, 0, rfl, Reads.none_, hb⟩
  · refine (bytes_v A n c l w h ho).mono ?_
    rintro e w' ⟨A', n', c', rfl, hr, _, _, hb⟩
    exact ⟨A', n', c', rfl, hr, hb⟩
theorem rbytes_b (h : VR w A n l) :
    Calls Tryd.prog 16 #[.slice A n c] w fun e w' => ∃ A' n' c', e = .returned (.tuple #[.slice A' n' c', .int .i64 (bytesC l)]) ∧ BReads w' w'.heap.size A' n' (bytesL l) ∧ Below w.heap.size w w' := by
  rw [bytesC, bytesL]
  cases ho : okV 0 l
  · refine (rbytes_no A n c l w h.r h.n ho).mono ?_
    rintro e w' ⟨rfl, hb⟩
    exact ⟨none, 0, 0, rfl, Reads.none_, hb⟩
  · refine (rbytes_v A n c l w h ho).mono ?_
    rintro e w' ⟨A', n', c', rfl, hr, _, _, hb⟩
    exact ⟨A', n', c', rfl, hr, hb⟩
set_option maxHeartbeats 1000000 in
theorem text_no (h : VR w A n l) (ho : okV 0 l = false) :
    Calls Tryd.prog 10 #[.slice A n c] w fun e w' => e = .returned (.string (st [])) ∧ Below w.heap.size w w' := by
  have HO := Lib.hid ho
  clear ho
  go_enter Tryd.func10, Tryd.ntmps10
  go_wp2_with fail
  refine (check_r h).mono ?_
  rw [HO.out]
  rintro e w1 ⟨rfl, hb1⟩
  go_wp2_with fail
  go_ret
  exact ⟨rfl, hb1⟩
theorem text_b (h : VR w A n l) (ht : Lib.TabIs Tryd.prog w "internal/strconv.uint64pow10" .u64 Lib.pow10Tab) :
    Calls Tryd.prog 10 #[.slice A n c] w fun e w' => e = .returned (.string (st (textL l))) ∧ Below w.heap.size w w' := by
  rw [textL]
  cases ho : okV 0 l
  · exact text_no h ho
  · have hall := ok_all l 0 ho
    have hl := ok_len l 0 ho (by omega)
    exact text_v w.heap.size A n c l w h.r (Nat.le_refl _) ho h.f (fun x hx => ⟨by have := (hall x hx).1; omega, (hall x hx).2.1⟩) (by rw [← h.r.len]; omega) ht
theorem rtext_b (h : VR w A n l) :
    Calls Tryd.prog 26 #[.slice A n c] w fun e w' => e = .returned (.string (st (textL l))) ∧ Below w.heap.size w w' := by
  rw [textL]
  cases ho : okV 0 l
  · exact rtext_no w.heap.size A n c l w h.r (Nat.le_refl _) h.n ho
  · exact rtext_v w.heap.size A n c l w h.r (Nat.le_refl _) ho h.f
end
end Go.Proofs.YtippojkdgecblaaDoor
