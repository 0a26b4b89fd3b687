/-
  A range over a function without early exits, where the body is told what holds of the yielded x in the world of the yield.
-/
import Derived.Test.YthajlhifgafpkaaNetZb
import Derived.RangeFuncNested
namespace Go.Proofs.Ythajlhifgafpkaa
open Go.RowKit Go.Shelf
/-- The iterator yields xs with S xs, each x with Y at its yield; each yield keeps J and pays Kp. -/
def SeqAll {α : Type} (F : Fence) (n : Nat) (P : Program) (g : Nat) (lb : Array Value) (encs : α → Array Value) (Kp : World → World → Prop) (Y : α → World → Prop) (S : List α → Prop) (N : Nat) (w : World) : Prop :=
  ∀ (l : Nat) (J : List α → World → Prop) (W : World), Below w.heap.size w W → AbidesFrom W.heap.size J →
    (∀ pre x W1, J pre W1 → pre.length < N → Y x W1 → YieldAt F (n - 1) P l (encs x) W1 fun e W' => e = .returned (.bool true) ∧ J (pre ++ [x]) W' ∧ Kp W1 W') → J [] W →
    CallsIn F n P g (#[.func (.yield l) #[] #[]] ++ lb) W fun e W' => (∃ v, e = .returned v) ∧ ∃ xs, S xs ∧ J xs W'
/-- How a round ends. -/
def allPost {α : Type} (B : Nat) (Kp : World → World → Prop) (I : List α → World → Prop) (xs : List α) (W : World) : Exit → Act → World → Prop := fun e _ W' => e = .normal ∧ KeepsFrom B W W' ∧ Kp W W' ∧ I xs W'
/-- The record of a loop. -/
@[reducible] def lpRec (fn : FuncId) (tmps : Array Value) (ps : Array Tmp) (assign body : Code) (D : Nat) (st : LoopState) (pe : Option Code) : Loop := { state := st, pending := pe, fn, tmps, params := ps, assign, body, defers := D }
section
variable {F : Fence} {n : Nat} {P : Program}
set_option maxHeartbeats 1000000 in
theorem wpIn_range_all {α : Type} {g : Operand} {ps : Array Tmp} {assign body : Code} {Q : Exit → Act → World → Prop} {a : Act} {w : World}
    (hro : F.round = none) (h1 : 1 ≤ n) {gf : Nat} {lb : Array Value} (hg : a.eval g = .func (.func gf) #[] lb) (hFg : F.fn gf) (eg : ∀ args w, (callFunc gf args).run P w = .ok (.enter gf args) w)
    {encs : α → Array Value} {Kp : World → World → Prop} {Y : α → World → Prop} {S : List α → Prop} {N : Nat} {w0 : World} (hseq : SeqAll F (n - 1) P gf lb encs Kp Y S N w0)
    (hKt : ∀ {A B C : World}, Kp A B → Kp B C → Kp A C) (hKb : ∀ (W : World) (l : Nat) (o o' : Obj), w.heap.size ≤ l → W.heap[l]? = some o → o.isCells = false → o.isWalk = false → Kp W (W.putObj l o')) (hb0 : Below w0.heap.size w0 w) (hps : ∀ x, (encs x).size = ps.size)
    (I : List α → World → Prop) (hI : OwnFrom w.heap.size I) (h0 : I [] w) (Ax : α → Act → World → Prop) (hAx : ∀ x a', OwnFrom w.heap.size (fun (_ : Unit) W => Ax x a' W))
    (hassign : ∀ (l : Nat) (pre : List α) (x : α) (W : World) (K : Act → World → Prop), I pre W → Y x W → (∀ a' W', KeepsFrom w.heap.size W W' → Kp W W' → I pre W' → Ax x a' W' → K a' W') →
      assign.wpIn (F.inRound l) (n - 1 - 1) P (Exit.then K (fun _ _ _ => False)) { tmps := (ps.zip (encs x)).foldl (fun t (p, v) => t.setIfInBounds p v) a.tmps, defers := [] } W)
    (hbody : ∀ (l : Nat) (pre : List α) (x : α) (a' : Act) (W : World), w.heap.size ≤ l → I pre W → Ax x a' W → pre.length < N → body.wpIn (F.inRound l) (n - 1 - 1) P (allPost w.heap.size Kp I (pre ++ [x]) W) a' W)
    (hdone : ∀ (D : Nat) (xs : List α) (W : World), w.heap.size ≤ D → S xs → I xs W → W.heap[D]? = some (.deferred (some [])) → Q .normal { a with defers := { target := .collected D, args := #[] } :: a.defers } W) :
    (Code.rangeFunc g ps assign body).wpIn F n P Q a w := by
  refine wpIn_rangeFunc fun fn hfn => ?_
  rw [hro]
  have D0 := World.alloc_heap_new w (.deferred (some []))
  have L0 := World.alloc_heap_new (w.alloc (.deferred (some []))) (.loop (lpRec fn a.tmps ps assign body w.heap.size .ready none))
  rw [World.size_alloc] at L0
  have D1 := (Below.heap_alloc (w.alloc (.deferred (some []))) (.loop (lpRec fn a.tmps ps assign body w.heap.size .ready none)) w.heap.size (by simp)).trans D0
  have I1 := hI.alloc (.loop (lpRec fn a.tmps ps assign body w.heap.size .ready none)) (hI.alloc (.deferred (some [])) h0)
  have hb1 : Below w0.heap.size w0 ((w.alloc (.deferred (some []))).alloc (.loop (lpRec fn a.tmps ps assign body w.heap.size .ready none))) := hb0.trans ((((Below.refl _ w).alloc (Nat.le_refl _) _).alloc (by simp) _).mono hb0.size)
  have hz1 : ((w.alloc (.deferred (some []))).alloc (.loop (lpRec fn a.tmps ps assign body w.heap.size .ready none))).heap.size = w.heap.size + 2 := by simp
  have hent := run_enterLoop_outer (P := P) (w := w) fn a.tmps ps assign body
  change (Instr.enterLoop fn a.tmps ps assign body none).run P w = .ok (w.heap.size + 1, [{ target := .collected w.heap.size, args := #[] }]) ((w.alloc (.deferred (some []))).alloc (.loop (lpRec fn a.tmps ps assign body w.heap.size .ready none))) at hent
  generalize (w.alloc (.deferred (some []))).alloc (.loop (lpRec fn a.tmps ps assign body w.heap.size .ready none)) = W1 at *
  refine ⟨w.heap.size + 1, [{ target := .collected w.heap.size, args := #[] }], W1, { target := .fn (.func gf) lb, args := #[.func (.yield (w.heap.size + 1)) #[] #[]] }, W1, gf, #[.func (.yield (w.heap.size + 1)) #[] #[]] ++ lb, W1, hent, ?_, ?_, ?_, fun _ => h1, ?_⟩
  · simp only [resolve, hg]
    simp [go_sem]
  · intro f' hf'
    simp [Target.leads] at hf'
    subst hf'
    exact hFg
  · simp [invoke, go_sem, eg]
  have hrow : ∀ {A : World} {row : Option Nat}, (∀ r, row = some r → W1.heap.size ≤ r ∧ ∃ o : Obj, A.heap[r]? = some o ∧ o.isWalk = true) → ∀ r, row = some r → w.heap.size ≤ r ∧ ∃ o : Obj, A.heap[r]? = some o ∧ o.isCells = false := fun h r e => by
    obtain ⟨hB, o, ho, hw⟩ := h r e
    exact ⟨by omega, o, ho, Obj.not_cells_of_walk hw⟩
  refine (hseq (w.heap.size + 1) (fun pre W => I pre W ∧ W.heap[w.heap.size + 1]? = some (.loop (lpRec fn a.tmps ps assign body w.heap.size .ready none)) ∧ W.heap[w.heap.size]? = some (.deferred (some []))) W1 hb1 ?_ ?_ ⟨I1, L0, D1⟩).mono ?_
  · intro s A B row hs hgr hr
    exact ⟨hI s A B row hs.1 hgr (hrow hr), (grownBy_keeps hgr (fun r e => (hr r e).2) hs.2.1 rfl).trans hs.2.1, (grownBy_keeps hgr (fun r e => (hr r e).2) hs.2.2 rfl).trans hs.2.2⟩
  · rintro pre x W ⟨hi, hl, hk⟩ hlen hY
    have hy := run_yield (P := P) (args := encs x) hl (hps x)
    refine ⟨_, _, _, _, hy, roundIn_of_wpIn hfn (hassign _ pre x W _ hi hY ?_)⟩
    intro a' Wa ka pa ia xa
    have la := ka.same _ _ (by omega) hl rfl
    have da := ka.same _ _ (Nat.le_refl _) hk rfl
    have za := (Array.getElem?_eq_some_iff.1 la).1
    refine ⟨_, run_beginRound la rfl, ?_⟩
    have lb2 := World.putObj_heap_same (w := Wa) (o := .loop (lpRec fn a.tmps ps assign body w.heap.size .busy none)) za
    have db2 := (World.putObj_heap_other (w := Wa) (o := .loop (lpRec fn a.tmps ps assign body w.heap.size .busy none)) (show w.heap.size ≠ w.heap.size + 1 by omega)).trans da
    have pb := hKb Wa _ _ (.loop (lpRec fn a.tmps ps assign body w.heap.size .busy none)) (by omega) la rfl rfl
    refine wpIn_mono (hbody _ pre x a' _ (by omega) (hI.putObj (.loop (lpRec fn a.tmps ps assign body w.heap.size .busy none)) ia (by omega) la rfl) ((hAx x a').putObj (s := ()) _ xa (by omega) la rfl) hlen) ?_
    rintro e a3 W3 ⟨rfl, k3, p3, i3⟩
    have l3 := k3.same _ _ (by omega) lb2 rfl
    have d3 := k3.same _ _ (Nat.le_refl _) db2 rfl
    have z3 := (Array.getElem?_eq_some_iff.1 l3).1
    exact ⟨_, _, run_endRound (P := P) none l3, rfl, ⟨hI.putObj _ i3 (by omega) l3 rfl, World.putObj_heap_same z3, (World.putObj_heap_other (by omega)).trans d3⟩, hKt pa (hKt (hKt pb p3) (hKb _ _ _ _ (by omega) l3 rfl rfl))⟩
  · rintro e W2 ⟨⟨v, rfl⟩, xs, hS, hi, hl, hk⟩
    exact ⟨none, _, run_endLoop (P := P) hl (by simp), hdone _ xs _ (Nat.le_refl _) hS (hI.putObj _ hi (by omega) hl rfl) ((World.putObj_heap_other (by omega)).trans hk)⟩
end
end Go.Proofs.Ythajlhifgafpkaa
