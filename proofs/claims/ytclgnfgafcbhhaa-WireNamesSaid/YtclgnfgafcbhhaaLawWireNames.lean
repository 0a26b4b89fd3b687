/-
  packtrainlaw01.WireNames returns true for every input, and each argument reads afterwards as before. No further condition.
  The frame was written by the guide's program (proof-skeleton.mjs); the walk is this claim's own.
-/
import Derived.Test.YtclgnfgafcbhhaaRows
import Derived.Test.YtclgnfgafcbhhaaLives
import Derived.Test.YtclgnfgafcbhhaaRdrB
import Derived.WalkKit
import Derived.ProofKit
import Derived.OpenShut
import Derived.ChangeOld
import Derived.Below
import Derived.ShutString
namespace Go.Proofs.Ytclgnfgafcbhhaa.wireNames
open Go.ChangeShapes Go.WideShapes Go.ChangeAt Go.RowKit
open Go.ChangeMaps (open_string shut_string)
set_option linter.unusedVariables false      -- a walk need not use every 'w<i>' (that an integer argument fits its kind)

theorem own : ownKnob Try.prog.godebug = none := by kernel_rfl

/-! ### STEP 1: THE WALK: the Go text returns true. 'Below w.heap.size w w'': the world has at most new blocks (Derived/RowKit3.lean). Part the cases AHEAD of 'go_enter' where a test parts the walk; take each callee by a contract of your own. -/
theorem walk  (w : World) :
    Calls Try.prog 4 #[] w fun e w' => e = .returned (.bool true) ∧ Below w.heap.size w w' := by
  have n127 : ∀ W : World, Calls Try.prog 18 #[.slice none 0 0, .int .u64 127] W fun e w' => ∃ A' c', e = .returned (.slice A' 1 c') ∧ BOwn w' W.heap.size A' 1 c' [127] ∧ Below W.heap.size W w' := fun W => by
    have h := number_any 0 none 0 0 [] 127 W Reads.none_ (Nat.zero_le _) (by omega) (by omega)
    rw [show num 127 = [127] by decide +kernel] at h
    exact h
  have n128 : ∀ W : World, Calls Try.prog 18 #[.slice none 0 0, .int .u64 128] W fun e w' => ∃ A' c', e = .returned (.slice A' 2 c') ∧ BOwn w' W.heap.size A' 2 c' [129, 0] ∧ Below W.heap.size W w' := fun W => by
    have h := number_any 0 none 0 0 [] 128 W Reads.none_ (Nat.zero_le _) (by omega) (by omega)
    rw [show num 128 = [129, 0] by decide +kernel] at h
    exact h
  have s0 : ∀ W : World, Calls Try.prog 20 #[.slice none 0 0] W fun e w' => e = .returned (.int .u32 1) ∧ W = w' := fun W => by
    have h := sum_any 0 none 0 0 [] W Reads.none_ (by omega)
    rw [show sumN [] = 1 by decide +kernel] at h
    exact h
  have hrd : rdNum ([128, 1], 0) = (0, ([128, 1], 4)) := by decide +kernel
  have N127 := Lib.hid n127
  have N128 := Lib.hid n128
  have S0 := Lib.hid s0
  have HRD := Lib.hid hrd
  clear n127 n128 s0 hrd
  go_enter Try.func4, Try.ntmps4
  go_wp2_with fail
  refine (new_any (w.heap.size + 1) (some ⟨w.heap.size, 0, none⟩) 2 2 [128, 1] _ (BReads.lits w [128, 1] _ rfl) (by simp) (by omega)).mono ?_
  rintro e w1 ⟨gp, gr, A1, c1, rfl, hgp, hR, hb1⟩
  have hb1' : Below w.heap.size w w1 := ((Below.refl _ _).alloc (Nat.le_refl _) _).trans (hb1.mono (by simp))
  go_wp2_with fail
  refine (rnum_any w1 gp gr 2 c1 A1 [128, 1] 0 hR).mono ?_
  rw [HRD.out]
  rintro e w2 ⟨rfl, ⟨A2, n2, c2, hR2⟩, hg2⟩
  have hb2 : Below w.heap.size w w2 := below_gb hb1' hg2 hb1'.size (by simp at hgp; omega)
  clear hR hg2 hb1
  go_wp2_with fail
  refine (lives_any w2).mono ?_
  rintro e w3 ⟨rfl, hb3⟩
  go_wp2_with fail
  refine (N127.out w3).mono ?_
  rintro e w4 ⟨A4, c4, rfl, ho4, hb4⟩
  have hst : (convert 22 9 (.slice A4 1 c4)).run Try.prog w4 = .ok (.string ⟨#[127]⟩) w4 := run_str (c := c4) ho4.reads
  go_wp2_with fail
  refine (N128.out w4).mono ?_
  rintro e w5 ⟨A5, c5, rfl, ho5, hb5⟩
  have hst : (convert 22 9 (.slice A5 2 c5)).run Try.prog w5 = .ok (.string ⟨#[129, 0]⟩) w5 := run_str (c := c5) ho5.reads
  go_wp2_with fail
  refine (S0.out w5).mono ?_
  rintro e _ ⟨rfl, rfl⟩
  have s25 : Below w2.heap.size w2 w5 := hb3.trans ((hb4.trans (hb5.mono hb4.size)).mono hb3.size)
  go_wp2_with fail
  refine (err_any w5 gp gr n2 c2 A2 [128, 1] 4 (hR2.below s25 hR2.grlt)).mono ?_
  rintro e _ ⟨rfl, rfl⟩
  go_wp2
  go_ret
  exact ⟨rfl, hb2.trans (s25.mono hb2.size)⟩

/-! ### THE ROW's STEP: WRITTEN OUT: LEAVE IT -/
set_option maxRecDepth 100000 in
theorem lifted (os : Os) (started : os.Started) (H : Type) (enc : TypeId × Value → H) :
    ReturnsInHanded {} Try.checked os 4 .any (Rows.wireNamesSpec.pre6 enc Try.prog Try.f4 Rows.wireNamesRow.domain false) (Rows.wireNamesSpec.post enc Try.prog Try.f4 false true false false) := by
  refine returnsInHanded_of_change (C := Try.checked) own started (by kernel_rfl) Try.func4
    (ChangeSpec.witness6 (enc := enc) (C := Try.checked) false ⟨#[], #[], []⟩ 8 (by kernel_rfl) (by kernel_rfl) (by kernel_rfl) (by kernel_rfl)) ?_
  intro W base args ds gs before hval0 hW hcnd _
  have hval : ∀ (j : Nat) t v, Try.f4.params[j]? = some t → args[j]? = some v → Value.okWide Try.prog W .any base t v := hval0
  have hW' := hW
  obtain ⟨p, q, hA0, hV, rfl, hfz, hnd⟩ := hW
  have hA : DataW.TrodAll enc Try.prog W 0 (fun _ => true) true Try.f4.params.toList args.toList ds p := hA0
  rw [Try.params4] at hA hval
  obtain ⟨rfl, rfl, rfl⟩ := trodAll_none hA
  obtain ⟨rfl, rfl⟩ := trodVars_none hV
  clear hA0 hval0
  simp only [List.append_nil] at hW'
  refine (walk  W).mono fun e W' ⟨he, bel⟩ => ?_
  subst he
  exact ⟨_, rfl, _, _, _, [], _, [], hW', trodAll_mk1 (shut_bool Try.underlying4 _), trodAll_mk0, rfl, bel.frame _, fun h => by cases h⟩

theorem over : Rows.wireNamesRow.holds Try.pinned (OpenSpec.ofChange Rows.wireNamesSpec) :=
  OpenClaim.holds_of_wide 4 Try.f4 rfl rfl rfl rfl rfl rfl rfl ⟨rfl, rfl, rfl, rfl, rfl⟩ rfl rfl rfl rfl rfl (by kernel_rfl) Try.func4 (by kernel_rfl)
    (of_decide_eq_true (by kernel_rfl)) (by unfold Func.isWrapper; first | (rw [if_pos (by decide +kernel)]; kernel_rfl) | (rw [if_neg (by decide +kernel)]; exact ⟨rfl, rfl⟩))
    (fun os started H enc _ => lifted os started H enc)

/-- ████ THE STATEMENT ████ -/
theorem proved : Rows.WireNamesSaid :=
  over
#print axioms proved
end Go.Proofs.Ytclgnfgafcbhhaa.wireNames
