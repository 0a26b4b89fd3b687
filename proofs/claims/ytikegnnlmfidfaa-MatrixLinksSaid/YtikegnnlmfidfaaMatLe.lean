/-
  Matrices, in plain Lean: in which part each device is, as a map.
-/
import Derived.Test.YtikegnnlmfidfaaMatLc
import Derived.Test.YtikegnnlmfidfaaMatQ
namespace Go.Proofs.Ytikegnnlmfidfaa
open Go.RowKit
/-- A map of the devices of the parts up to k of part i: a part's place and one. -/
structure MpOk (P : List (List Int)) (i k : Nat) (E : List (Nat × Nat)) : Prop where
  zero : ∀ (j : Nat), aget j E = none → ∀ (i' : Nat) (l : List Int), P[i']? = some l → (j : Int) ∈ l → i < i' ∨ (i' = i ∧ ¬ (j : Int) ∈ l.take k)
  pos : ∀ (j v : Nat), aget j E = some v → ∃ (x : Nat) (l : List Int), v = x + 1 ∧ P[x]? = some l ∧ (j : Int) ∈ l
theorem MpOk.start (P : List (List Int)) : MpOk P 0 0 [] := by
  refine ⟨fun j _ i' l _ _ => ?_, fun j v h => by cases h⟩
  rcases Nat.eq_zero_or_pos i' with h | h
  · exact .inr ⟨h, by simp⟩
  · exact .inl h
theorem MpOk.next {P : List (List Int)} {i : Nat} {l : List Int} {E : List (Nat × Nat)} (h : MpOk P i l.length E) (hl : P[i]? = some l) : MpOk P (i + 1) 0 E := by
  refine ⟨fun j hj i' l' hl' hm => ?_, h.pos⟩
  rcases h.zero j hj i' l' hl' hm with h1 | ⟨rfl, h2⟩
  · rcases Nat.lt_or_ge (i + 1) i' with h3 | h3
    · exact .inl h3
    · exact .inr ⟨by omega, by simp⟩
  · rw [hl] at hl'
    obtain rfl := Option.some.inj hl'
    rw [List.take_length] at h2
    exact absurd hm h2
theorem MpOk.step {P : List (List Int)} (hp : PartsOk P) {i k : Nat} {l : List Int} {d : Int} {E : List (Nat × Nat)} (h : MpOk P i k E) (hl : P[i]? = some l) (hd : l[k]? = some d) :
    ∃ n : Nat, d = (n : Int) ∧ 1 ≤ n ∧ n ≤ 16 ∧ MpOk P i (k + 1) (aput n (i + 1) E) := by
  obtain ⟨n, rfl, h1, h16⟩ := hp.dev i l hl d (List.mem_of_getElem? hd)
  refine ⟨n, rfl, h1, h16, fun j hj i' l' hl' hjl => ?_, fun j v hv => ?_⟩
  · rw [aget_aput] at hj
    split at hj
    · cases hj
    · rename_i hne
      rcases h.zero j hj i' l' hl' hjl with h2 | ⟨rfl, h2⟩
      · exact .inl h2
      · rw [hl] at hl'
        obtain rfl := Option.some.inj hl'
        refine .inr ⟨rfl, fun hh => ?_⟩
        rcases (mem_take_succ hd _).1 hh with h3 | h3
        · exact h2 h3
        · omega
  · rw [aget_aput] at hv
    split at hv
    · rename_i e
      subst e
      exact ⟨i, l, (Option.some.inj hv).symm, hl, List.mem_of_getElem? hd⟩
    · exact h.pos j v hv
/-- What the map tells of a device that is in a part. -/
theorem MpOk.at_ {P : List (List Int)} (hp : PartsOk P) {E : List (Nat × Nat)} (h : MpOk P P.length 0 E) {q n : Nat} {l : List Int} (hq : P[q]? = some l) (hn : (n : Int) ∈ l) : aget n E = some (q + 1) := by
  have hql := (List.getElem?_eq_some_iff.1 hq).1
  cases hx : aget n E with
  | none => rcases h.zero n hx q l hq hn with h2 | ⟨h2, _⟩ <;> omega
  | some v =>
    obtain ⟨x, l', rfl, h2, h3⟩ := h.pos n v hx
    rw [hp.one q x l l' hq h2 _ hn h3]
/-- The matrices may be, and are of different devices. -/
def Apart (ms : List PM) : Prop := (∀ m ∈ ms, chkM m = 0) ∧ ∀ (i j : Nat) (a b : PM), ms[i]? = some a → ms[j]? = some b → a.1 = b.1 → i = j
theorem of_apart {ms : List PM} (h : Apart ms) {i : Nat} {m : PM} (hm : ms[i]? = some m) : ∃ n : Nat, m.1 = (n : Int) ∧ 1 ≤ n ∧ n ≤ 16 ∧ ofI ms n = some i := by
  have hf : firstP ms i = true := by
    unfold firstP
    rw [getD_of hm, h.1 m (List.mem_of_getElem? hm)]
    simp only [decide_true, Bool.true_and]
    refine List.all_eq_true.2 fun y hy => ?_
    obtain ⟨j, hj, e⟩ := List.getElem_of_mem hy
    have hji : j < i := by rw [List.length_take] at hj; omega
    have hy2 : ms[j]? = some y := by
      rw [List.getElem_take] at e
      rw [List.getElem?_eq_getElem (by rw [List.length_take] at hj; omega), e]
    have hne : ¬ y.1 = m.1 := fun e2 => by
      have := h.2 j i y m hy2 hm e2
      omega
    simp [hne]
  obtain ⟨n, h1, h2, h3, _, h5⟩ := first_of hm hf
  exact ⟨n, h1, h2, h3, h5⟩
/-- A device that has the folder is in a part, and only then. -/
theorem has_part {ms : List PM} (f : ByteArray) {E : List (Nat × Nat)} (h : MpOk (partsU ms f) (partsU ms f).length 0 E) {i n : Nat} {m : PM} (hm : ms[i]? = some m) (hn : ofI ms n = some i) : hasP m f = decide (0 < (aget n E).getD 0) := by
  have hg := groupG_is (hasI ms f) (rootU (outerU (bothI ms f) (usL (ofI ms)) 17)) 17
  have hh : hasI ms f n = hasP m f := by
    unfold hasI
    rw [hn]
    simp only
    rw [getD_of hm]
  have h16 := ofI_dev hn
  cases hx : hasP m f with
  | true =>
    rw [hx] at hh
    obtain ⟨q, hq⟩ := hg.some_ n (by omega) hh
    obtain ⟨l, hl, hml⟩ := hg.all n (by omega) hh q hq
    rw [h.at_ (partsU_ok ms f) hl hml]
    simp
  | false =>
    rw [hx] at hh
    cases ha : aget n E with
    | none => rfl
    | some v =>
      obtain ⟨x, l, _, hl, hml⟩ := h.pos n v ha
      obtain ⟨n', e, _, h1, _⟩ := hg.mem x l hl _ hml
      obtain rfl : n = n' := by omega
      rw [hh] at h1
      cases h1
/-- Devices that share are in one part, as the map tells. -/
theorem both_part {ms : List PM} (f : ByteArray) {E : List (Nat × Nat)} (h : MpOk (partsU ms f) (partsU ms f).length 0 E) {i j x y : Nat} {a b : PM} (ha : ms[i]? = some a) (hb : ms[j]? = some b) (hx : ofI ms x = some i) (hy : ofI ms y = some j) (hbo : bothP a b f = true) : (aget x E).getD 0 = (aget y E).getD 0 := by
  obtain ⟨q, l, hq, hxl, hyl⟩ := same_part ha hb hx hy hbo
  rw [h.at_ (partsU_ok ms f) hq hxl, h.at_ (partsU_ok ms f) hq hyl]
theorem IMap.look0_ {w : World} {b : Nat} {E : List (Nat × Nat)} (h : IMap w b E) (x : Nat) (hx : x ≤ 1000000) :
    (Instr.lookup 34 (.map (some b)) (.int .i64 (x : Int)) false).run Try.prog w = .ok (.int .i64 (((aget x E).getD 0 : Nat) : Int)) w := by
  have := MapIs.look h (Go.Maps.int_keyed Try.underlying3) ekN_inj Try.underlying34 (Try.zeroValue3 w) false (x := x) (Go.Maps.keyOf_int_mk Try.underlying3 (wfN hx))
  refine this.trans ?_
  cases aget x E <;> rfl
end Go.Proofs.Ytikegnnlmfidfaa
