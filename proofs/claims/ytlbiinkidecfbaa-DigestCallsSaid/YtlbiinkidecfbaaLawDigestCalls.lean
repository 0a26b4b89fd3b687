/-
  packtrainlaw02.DigestCalls returns true for every input, and each argument reads afterwards as before. No further condition.
  The frame was written by the guide's program (proof-skeleton.mjs); the walk is this claim's own.
-/
import Derived.Test.YtlbiinkidecfbaaRows
import Derived.Test.YtlbiinkidecfbaaShaDc
import Derived.Test.YtlbiinkidecfbaaArrOpen
import Derived.Test.YtlbiinkidecfbaaIntRows
import Derived.WalkKit
import Derived.ProofKit
import Derived.OpenShut
import Derived.ShutString
import Derived.ChangeOld
import Derived.Below
namespace Go.Proofs.Ytlbiinkidecfbaa.digestCalls
open Go.ChangeShapes Go.WideShapes Go.ChangeAt Go.RowKit
open Go.ChangeMaps (open_string shut_string)
set_option linter.unusedVariables false

theorem own : ownKnob Try.prog.godebug = none := by kernel_rfl
theorem laidOut : laidOutB Try.prog = true := by kernel_rfl

/-- WHAT THE WALK IS TOLD OF A SLICE OF INTEGERS THAT CAME IN: it is nil; or it leads to a row of 'cap' cells, the numbers 'zs' (the first 'len' are its elements, the rest its spare room), each fitting its kind. -/
def IsRow (k : IntKind) (w : World) (a : Option Addr) (len cap : Nat) (zs : List Int) : Prop :=
  (a = none ∧ len = 0 ∧ cap = 0 ∧ zs = []) ∨
  ∃ x, a = some x ∧ len ≤ cap ∧ cap ≤ maxLen ∧ zs.length = cap ∧ (∀ i, i < zs.length → w.cell? (x.add i) = some (.int k (zs.getD i 0))) ∧ ∀ n ∈ zs, (Lit.int k n).wf = true

/-! ### STEP 1: THE WALK: the Go text returns true, AND WRITES NOTHING THAT WAS THERE: 'Below w.heap.size w w'' (Derived/Below.lean: '.refl', '.alloc', '.drew', '.setCell' at a new block, '.trans'). Open each 'IsRow' by 'rcases' AHEAD of 'go_enter'; part every test ahead of the walk. -/
theorem walk (a0 : Option Addr) (len0 cap0 : Nat) (z0 : List Int) (z1 : List Nat) (z2 : List Nat) (a3 : Int) (a4 : ByteArray) (z5 : List Nat) (w : World) (w0 : IsRow .u8 w a0 len0 cap0 z0) (w1 : z1.length = 8 ∧ ∀ x ∈ z1, (Lit.int .u32 (x : Int)).wf = true) (w2 : z2.length = 64 ∧ ∀ x ∈ z2, (Lit.int .u8 (x : Int)).wf = true) (w3 : (Lit.int .i64 a3).wf = true) (w4 : a4.size ≤ maxLen) (w5 : z5.length = 32 ∧ ∀ x ∈ z5, (Lit.int .u8 (x : Int)).wf = true) :
    Calls Try.prog 6 #[.slice a0 len0 cap0, .agg (z1.map fun x : Nat => Value.int .u32 (x : Int)).toArray, .agg (z2.map fun x : Nat => Value.int .u8 (x : Int)).toArray, .int .i64 a3, .string a4, .agg (z5.map fun x : Nat => Value.int .u8 (x : Int)).toArray] w fun e w' => e = .returned (.bool true) ∧ Below w.heap.size w w' := by
  obtain ⟨l, hr, hnc, hcm⟩ := reads_of_row w0
  unfold maxLen at hcm
  have b3 := bounds_i64 w3
  have hw8 : ∀ x ∈ z1, x < 4294967296 := fun x hx => by have := (bounds_u32 (w1.2 x hx)).2; omega
  have hw64 : ∀ x ∈ z2, x < 256 := fun x hx => by have := (bounds_u8 (w2.2 x hx)).2; omega
  have hw32 : ∀ x ∈ z5, x < 256 := fun x hx => by have := (bounds_u8 (w5.2 x hx)).2; omega
  obtain ⟨hl1, _⟩ := w1
  obtain ⟨hl2, _⟩ := w2
  obtain ⟨hl5, _⟩ := w5
  by_cases h1 : len0 ≤ 3000
  · by_cases h2 : a4.size ≤ 3000
    · by_cases h3 : a3 ≤ 1099511627776
      · rcases z1 with _ | ⟨x0, _ | ⟨x1, _ | ⟨x2, _ | ⟨x3, _ | ⟨x4, _ | ⟨x5, _ | ⟨x6, _ | ⟨x7, _ | ⟨x8, z1⟩⟩⟩⟩⟩⟩⟩⟩⟩
        all_goals try (simp at hl1; done)
        exact calls_in a0 len0 cap0 l ⟨x0, x1, x2, x3, x4, x5, x6, x7⟩ z2 a3 a4 z5 w hr h1 hw8 hl2 hw64 b3.1 h3 h2 hl5 hw32
      · have d1 : decide ((3000 : Int) < (len0 : Int)) = false := by simp; omega
        have d2 : decide ((3000 : Int) < (a4.size : Int)) = false := by simp; omega
        have d3 : decide ((1099511627776 : Int) < a3) = true := by simp; omega
        clear w0 hr hw8 hw64 hw32
        go_enter Try.func6, Try.ntmps6
        go_wp2_with fail
        refine (lives_v _).mono ?_
        rintro e w2 ⟨rfl, hb1⟩
        have HB := Lib.hid hb1
        clear hb1
        go_wp2
        go_ret
        exact ⟨rfl, ((((Below.refl _ _).alloc (Nat.le_refl _) _).alloc (by simp) _).alloc (by simp; omega) _).trans (HB.out.mono (by simp; omega))⟩
    · have d1 : decide ((3000 : Int) < (len0 : Int)) = false := by simp; omega
      have d2 : decide ((3000 : Int) < (a4.size : Int)) = true := by simp; omega
      clear w0 hr hw8 hw64 hw32
      go_enter Try.func6, Try.ntmps6
      go_wp2_with fail
      refine (lives_v _).mono ?_
      rintro e w2 ⟨rfl, hb1⟩
      have HB := Lib.hid hb1
      clear hb1
      go_wp2
      go_ret
      exact ⟨rfl, ((((Below.refl _ _).alloc (Nat.le_refl _) _).alloc (by simp) _).alloc (by simp; omega) _).trans (HB.out.mono (by simp; omega))⟩
  · have d1 : decide ((3000 : Int) < (len0 : Int)) = true := by simp; omega
    clear w0 hr hw8 hw64 hw32
    go_enter Try.func6, Try.ntmps6
    go_wp2_with fail
    refine (lives_v _).mono ?_
    rintro e w2 ⟨rfl, hb1⟩
    have HB := Lib.hid hb1
    clear hb1
    go_wp2
    go_ret
    exact ⟨rfl, ((((Below.refl _ _).alloc (Nat.le_refl _) _).alloc (by simp) _).alloc (by simp; omega) _).trans (HB.out.mono (by simp; omega))⟩

/-! ### THE ROW's STEP: WRITTEN OUT: LEAVE IT -/
set_option maxRecDepth 100000 in
theorem lifted (os : Os) (started : os.Started) (H : Type) (enc : TypeId × Value → H) :
    ReturnsInHanded {} Try.checked os 6 .any (Rows.digestCallsSpec.pre6 enc Try.prog Try.f6 Rows.digestCallsRow.domain false) (Rows.digestCallsSpec.post enc Try.prog Try.f6 false true false false) := by
  refine returnsInHanded_of_change (C := Try.checked) own started (by kernel_rfl) Try.func6
    (ChangeSpec.witness6 (enc := enc) (C := Try.checked) false ⟨#[], #[.slice none 0 0, (.agg (List.replicate 8 (Value.int .u32 0)).toArray), (.agg (List.replicate 64 (Value.int .u8 0)).toArray), .int .i64 0, .string ByteArray.empty, (.agg (List.replicate 32 (Value.int .u8 0)).toArray)], []⟩ 8 (by kernel_rfl) (by kernel_rfl) (by kernel_rfl) (by kernel_rfl)) ?_
  intro W base args ds gs before hval0 hW hcnd _
  have hval : ∀ (j : Nat) t v, Try.f6.params[j]? = some t → args[j]? = some v → Value.okWide Try.prog W .any base t v := hval0
  have hW' := hW
  obtain ⟨p, q, hA0, hV, rfl, hfz, hnd⟩ := hW
  have hA : DataW.TrodAll enc Try.prog W 0 (fun _ => true) true Try.f6.params.toList args.toList ds p := hA0
  rw [Try.params6] at hA hval
  obtain ⟨v0, vs0, d0, ds0, p0, q0, hargs, rfl, rfl, h0, r0⟩ := trodAll_cons hA
  obtain ⟨v1, vs1, d1, ds1, p1, q1, rfl, rfl, rfl, h1, r1⟩ := trodAll_cons r0
  obtain ⟨v2, vs2, d2, ds2, p2, q2, rfl, rfl, rfl, h2, r2⟩ := trodAll_cons r1
  obtain ⟨v3, vs3, d3, ds3, p3, q3, rfl, rfl, rfl, h3, r3⟩ := trodAll_cons r2
  obtain ⟨v4, vs4, d4, ds4, p4, q4, rfl, rfl, rfl, h4, r4⟩ := trodAll_cons r3
  obtain ⟨v5, vs5, d5, ds5, p5, q5, rfl, rfl, rfl, h5, r5⟩ := trodAll_cons r4
  obtain ⟨rfl, rfl, rfl⟩ := trodAll_nil r5
  obtain rfl : args = #[v0, v1, v2, v3, v4, v5] := by cases args; simp_all
  obtain ⟨rfl, rfl⟩ := trodVars_none hV
  obtain ⟨a0, len0, cap0, rfl⟩ := okWide_slice Try.underlying22 (hval 0 22 v0 rfl rfl)
  have k0 := h0
  have lt0 : ∀ x ∈ p0, x.block < W.heap.size := by obtain ⟨m, hm⟩ := k0; exact DataW.trod_lt m _ _ _ hm
  obtain ⟨z0, w0⟩ : ∃ zs, IsRow .u8 W a0 len0 cap0 zs := by
    obtain ⟨fuel, hf⟩ := h0
    rcases open_ints Try.underlying22 Try.underlying5 (by kernel_rfl) hf with ⟨hcs, _⟩ | ⟨x, l, c, zs, hcs, _, hl, hm, hz, _, hcell, hwz⟩
    · simp [Value.cells] at hcs
      obtain ⟨rfl, rfl, rfl⟩ := hcs
      exact ⟨[], .inl ⟨rfl, rfl, rfl, rfl⟩⟩
    · simp [Value.cells] at hcs
      obtain ⟨rfl, rfl, rfl⟩ := hcs
      exact ⟨zs, .inr ⟨_, rfl, hl, hm, by simpa using hz, hcell, hwz⟩⟩
  obtain ⟨z1, rfl, w1⟩ := open_array Try.underlying36 Try.underlying35 (by kernel_rfl) (by kernel_rfl) wf_nonneg_u32 (hval 1 36 v1 rfl rfl) h1
  have k1 := h1
  have lt1 : ∀ x ∈ p1, x.block < W.heap.size := by obtain ⟨m, hm⟩ := k1; exact DataW.trod_lt m _ _ _ hm
  obtain ⟨z2, rfl, w2⟩ := open_array Try.underlying42 Try.underlying5 (by kernel_rfl) (by kernel_rfl) wf_nonneg_u8 (hval 2 42 v2 rfl rfl) h2
  have k2 := h2
  have lt2 : ∀ x ∈ p2, x.block < W.heap.size := by obtain ⟨m, hm⟩ := k2; exact DataW.trod_lt m _ _ _ hm
  obtain ⟨a3, rfl, rfl, rfl, w3⟩ := open_int Try.underlying3 (hval 3 3 v3 rfl rfl) h3
  obtain ⟨a4, rfl, rfl, rfl, w4⟩ := open_string Try.underlying9 (hval 4 9 v4 rfl rfl) h4
  obtain ⟨z5, rfl, w5⟩ := open_array Try.underlying29 Try.underlying5 (by kernel_rfl) (by kernel_rfl) wf_nonneg_u8 (hval 5 29 v5 rfl rfl) h5
  have k5 := h5
  have lt5 : ∀ x ∈ p5, x.block < W.heap.size := by obtain ⟨m, hm⟩ := k5; exact DataW.trod_lt m _ _ _ hm
  clear hA0 hval0
  refine (walk a0 len0 cap0 z0 z1 z2 a3 a4 z5 W w0 w1 w2 w3 w4 w5).mono fun e W' ⟨he, bel⟩ => ?_
  subst he
  exact ⟨_, rfl, _, _, _, [], _, [], hW', trodAll_mk1 (shut_bool Try.underlying4 _), (trodAll_cons_mk (Below.trod laidOut (by kernel_rfl) (of_decide_eq_true (by kernel_rfl)) k0 bel lt0) (trodAll_cons_mk (Below.trod laidOut (by kernel_rfl) (of_decide_eq_true (by kernel_rfl)) k1 bel lt1) (trodAll_cons_mk (Below.trod laidOut (by kernel_rfl) (of_decide_eq_true (by kernel_rfl)) k2 bel lt2) (trodAll_cons_mk (shut_int Try.underlying3 w3) (trodAll_cons_mk (shut_string Try.underlying9 w4) (trodAll_cons_mk (Below.trod laidOut (by kernel_rfl) (of_decide_eq_true (by kernel_rfl)) k5 bel lt5) trodAll_mk0)))))), rfl, bel.frame _, fun h => by cases h⟩

theorem over : Rows.digestCallsRow.holds Try.pinned (OpenSpec.ofChange Rows.digestCallsSpec) :=
  OpenClaim.holds_of_wide 6 Try.f6 rfl rfl rfl rfl rfl rfl rfl ⟨rfl, rfl, rfl, rfl, rfl⟩ rfl rfl rfl rfl rfl (by kernel_rfl) Try.func6 (by kernel_rfl)
    (of_decide_eq_true (by kernel_rfl)) (by unfold Func.isWrapper; first | (rw [if_pos (by decide +kernel)]; kernel_rfl) | (rw [if_neg (by decide +kernel)]; exact ⟨rfl, rfl⟩))
    (fun os started H enc _ => lifted os started H enc)

/-- ████ THE STATEMENT ████ -/
theorem proved : Rows.DigestCallsSaid := over
#print axioms proved
end Go.Proofs.Ytlbiinkidecfbaa.digestCalls
