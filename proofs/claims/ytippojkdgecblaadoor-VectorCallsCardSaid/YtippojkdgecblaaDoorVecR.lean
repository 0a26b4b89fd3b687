/-
  Vectors: the contracts once more, told of vectors that are read (VR).
-/
import Derived.Test.YtippojkdgecblaaDoorVecQ
import Derived.Test.YtippojkdgecblaaDoorVecL
import Derived.Test.YtippojkdgecblaaDoorCntOpen
namespace Go.Proofs.YtippojkdgecblaaDoor
open Go.RowKit
/-- A vector that is read: where it lies, what it is, that its values fit. -/
structure VR (w : World) (A : Option Addr) (n : Nat) (l : List (Int × Nat)) : Prop where
  r : CReads w w.heap.size A n l
  n : n ≤ 9223372036854775807
  f : fitV l
section
variable {w w' : World} {A A1 A2 A3 A4 : Option Addr} {n n1 n2 n3 n4 c c1 c2 c3 c4 : Nat} {l l1 l2 l3 l4 : List (Int × Nat)}
theorem VR.step (h : VR w A n l) (hb : Below w.heap.size w w') : VR w' A n l := ⟨Reads.more (Reads.below (show Reads w w.heap.size 2 A n _ from h.r) hb) hb.size, h.n, h.f⟩
theorem len_ofN : ∀ (k : Nat) (d : Int) (f : Int → Nat), (ofN f k d).length ≤ k
  | 0, _, _ => by simp [ofN]
  | k + 1, d, f => by
    have := len_ofN k (d + 1) f
    rw [ofN, List.length_append]
    split <;> simp <;> omega
theorem VR.own {base : Nat} {f : Int → Nat} {b : Bool} (h : COwn w base A n c (if b then ofV f else [])) (hf : b = true → ∀ e, f e < 18446744073709551616) : VR w A n (if b then ofV f else []) := by
  have hl := h.reads.len
  refine ⟨h.reads, ?_, ?_⟩
  · cases b
    · simp at hl; omega
    · have := len_ofN 16 1 f
      simp only [if_true] at hl
      unfold ofV at hl
      omega
  · cases b
    · intro x hx; simp at hx
    · exact fit_ofV f (hf rfl)
theorem check_r (h : VR w A n l) : Calls Tryd.prog 11 #[.slice A n c] w fun e w' => e = .returned (.int .i64 (if okV 0 l then 0 else 2)) ∧ Below w.heap.size w w' :=
  check_v w.heap.size A n c l w h.r (Nat.le_refl _) h.n
theorem val_r (h : VR w A n l) (d : Int) : Calls Tryd.prog 22 #[.slice A n c, .int .i64 d] w fun e w' => e = .returned (.int .u64 (val l d : Int)) ∧ Below w.heap.size w w' :=
  val_v w.heap.size A n c l d w h.r (Nat.le_refl _) h.n
theorem compare_r (h1 : VR w A1 n1 l1) (h2 : VR w A2 n2 l2) : Calls Tryd.prog 8 #[.slice A1 n1 c1, .slice A2 n2 c2] w fun e w' => e = .returned (.int .i64 (cmpV l1 l2)) ∧ Below w.heap.size w w' :=
  compare_v w.heap.size A1 A2 n1 c1 n2 c2 l1 l2 w h1.r h2.r (Nat.le_refl _) h1.n h2.n h1.f h2.f
theorem order_r (h1 : VR w A1 n1 l1) (h2 : VR w A2 n2 l2) : Calls Tryd.prog 9 #[.slice A1 n1 c1, .slice A2 n2 c2] w fun e w' => e = .returned (.int .i64 (ordV l1 l2)) ∧ Below w.heap.size w w' :=
  order_v w.heap.size A1 A2 n1 c1 n2 c2 l1 l2 w h1.r h2.r (Nat.le_refl _) h1.n h2.n h1.f h2.f
theorem same_r (h1 : VR w A1 n1 l1) (h2 : VR w A2 n2 l2) : Calls Tryd.prog 20 #[.slice A1 n1 c1, .slice A2 n2 c2] w fun e w' => e = .returned (.bool (decide (l1 = l2))) ∧ Below w.heap.size w w' :=
  same_v w.heap.size A1 A2 n1 c1 n2 c2 l1 l2 w h1.r h2.r (Nat.le_refl _) h1.n
theorem bump_r (h : VR w A n l) (d : Int) : Calls Tryd.prog 6 #[.slice A n c, .int .i64 d] w fun e w' => ∃ A' n' c', e = .returned (.tuple #[.slice A' n' c', .int .i64 (bumpE l d)]) ∧ VR w' A' n' (bumpV l d) ∧ Below w.heap.size w w' := by
  refine (bump_v w.heap.size A n c l d w h.r (Nat.le_refl _) h.n h.f).mono ?_
  rintro e w' ⟨A', n', c', rfl, ho, hb⟩
  refine ⟨A', n', c', rfl, ?_, hb⟩
  have e1 : bumpV l d = if decide (bumpE l d = 0) then ofV (bumpF l d) else [] := by rw [bumpV]; simp
  rw [e1] at ho ⊢
  refine VR.own ho fun hd e => ?_
  have h0 := bump_ok (of_decide_eq_true hd)
  have h1 := fit_val l e h.f
  unfold bumpF
  split
  · rename_i h2
    subst h2
    have := h0.2.2.2.1
    omega
  · exact h1
theorem merge_r (vs : List Vec) (C : Array Value) (hC : C.toList = vs.map Vec.v) (k : Nat) (hk : vs.length = k) (hk9 : k ≤ 9) (h : ∀ v ∈ vs, VR w v.A v.n v.l) :
    Calls Tryd.prog 13 #[.slice (some ⟨w.heap.size, 0, none⟩) k k] (w.alloc (.cells C 23)) fun e w' => ∃ A' n' c', e = .returned (.tuple #[.slice A' n' c', .int .i64 (mergeE (vs.map Vec.l))]) ∧ VR w' A' n' (mergeV (vs.map Vec.l)) ∧ Below w.heap.size w w' := by
  subst hk
  refine (merge_v (w.heap.size + 1) _ vs.length vs.length vs _ (MReads.lit w w.heap.size vs C _ hC (Nat.le_refl _) fun v hv => ⟨(h v hv).r, (h v hv).n⟩) (by simp) (by omega) fun v hv => (h v hv).f).mono ?_
  rintro e w' ⟨A', n', c', rfl, ho, hb⟩
  refine ⟨A', n', c', rfl, ?_, ((Below.refl _ _).alloc (Nat.le_refl _) _).trans (hb.mono (by simp))⟩
  unfold mergeV at ho ⊢
  exact VR.own ho fun _ e => fit_merge _ e fun v hv => by
    obtain ⟨u, hu, rfl⟩ := List.mem_map.1 hv
    exact (h u hu).f
theorem merge2 (h1 : VR w A1 n1 l1) (h2 : VR w A2 n2 l2) : Calls Tryd.prog 13 #[.slice (some ⟨w.heap.size, 0, none⟩) 2 2] (w.alloc (.cells #[.slice A1 n1 c1, .slice A2 n2 c2] 23)) fun e w' => ∃ A' n' c', e = .returned (.tuple #[.slice A' n' c', .int .i64 (mergeE [l1, l2])]) ∧ VR w' A' n' (mergeV [l1, l2]) ∧ Below w.heap.size w w' := by
  refine merge_r [⟨A1, n1, c1, l1⟩, ⟨A2, n2, c2, l2⟩] #[.slice A1 n1 c1, .slice A2 n2 c2] rfl 2 rfl (by omega) fun v hv => ?_
  simp only [List.mem_cons, List.not_mem_nil, or_false] at hv
  rcases hv with rfl | rfl
  · exact h1
  · exact h2
theorem merge3 (h1 : VR w A1 n1 l1) (h2 : VR w A2 n2 l2) (h3 : VR w A3 n3 l3) : Calls Tryd.prog 13 #[.slice (some ⟨w.heap.size, 0, none⟩) 3 3] (w.alloc (.cells #[.slice A1 n1 c1, .slice A2 n2 c2, .slice A3 n3 c3] 23)) fun e w' => ∃ A' n' c', e = .returned (.tuple #[.slice A' n' c', .int .i64 (mergeE [l1, l2, l3])]) ∧ VR w' A' n' (mergeV [l1, l2, l3]) ∧ Below w.heap.size w w' := by
  refine merge_r [⟨A1, n1, c1, l1⟩, ⟨A2, n2, c2, l2⟩, ⟨A3, n3, c3, l3⟩] #[.slice A1 n1 c1, .slice A2 n2 c2, .slice A3 n3 c3] rfl 3 rfl (by omega) fun v hv => ?_
  simp only [List.mem_cons, List.not_mem_nil, or_false] at hv
  rcases hv with rfl | rfl | rfl
  · exact h1
  · exact h2
  · exact h3
theorem merge4 (h1 : VR w A1 n1 l1) (h2 : VR w A2 n2 l2) (h3 : VR w A3 n3 l3) (h4 : VR w A4 n4 l4) : Calls Tryd.prog 13 #[.slice (some ⟨w.heap.size, 0, none⟩) 4 4] (w.alloc (.cells #[.slice A1 n1 c1, .slice A2 n2 c2, .slice A3 n3 c3, .slice A4 n4 c4] 23)) fun e w' => ∃ A' n' c', e = .returned (.tuple #[.slice A' n' c', .int .i64 (mergeE [l1, l2, l3, l4])]) ∧ VR w' A' n' (mergeV [l1, l2, l3, l4]) ∧ Below w.heap.size w w' := by
  refine merge_r [⟨A1, n1, c1, l1⟩, ⟨A2, n2, c2, l2⟩, ⟨A3, n3, c3, l3⟩, ⟨A4, n4, c4, l4⟩] #[.slice A1 n1 c1, .slice A2 n2 c2, .slice A3 n3 c3, .slice A4 n4 c4] rfl 4 rfl (by omega) fun v hv => ?_
  simp only [List.mem_cons, List.not_mem_nil, or_false] at hv
  rcases hv with rfl | rfl | rfl | rfl
  · exact h1
  · exact h2
  · exact h3
  · exact h4
end
end Go.Proofs.YtippojkdgecblaaDoor
