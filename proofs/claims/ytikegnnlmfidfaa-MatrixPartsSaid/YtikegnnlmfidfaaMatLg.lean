/-
  Matrices, in plain Lean: the parts of a folder, each told by its least device; what a search from a device finds.
-/
import Derived.Test.YtikegnnlmfidfaaMatLc
import Derived.Test.YtikegnnlmfidfaaMatLd
import Derived.Test.YtikegnnlmfidfaaMatY
namespace Go.Proofs.Ytikegnnlmfidfaa
def headP (has : Nat → Bool) (root : Nat → Nat) (d : Nat) : Bool := has d && (List.range d).all fun e => !(has e && decide (root e = root d))
def membP (has : Nat → Bool) (root : Nat → Nat) (k d : Nat) : List Int := ((List.range k).filter fun n => has n && decide (root n = root d)).map fun n : Nat => (n : Int)
def headsP (has : Nat → Bool) (root : Nat → Nat) (k : Nat) : List Nat := (List.range k).filter (headP has root)
section
variable {has : Nat → Bool} {root : Nat → Nat}
theorem headsP_succ (k : Nat) : headsP has root (k + 1) = headsP has root k ++ if headP has root k then [k] else [] := by
  unfold headsP
  rw [List.range_succ, List.filter_append]
  congr 1
  cases h : headP has root k <;> simp [h]
theorem membP_succ (k d : Nat) : membP has root (k + 1) d = membP has root k d ++ if has k && decide (root k = root d) then [(k : Int)] else [] := by
  unfold membP
  rw [List.range_succ, List.filter_append, List.map_append]
  congr 1
  cases h : (has k && decide (root k = root d)) <;> simp [h]
theorem headP_iff {d : Nat} : headP has root d = true ↔ has d = true ∧ ∀ e, e < d → has e = true → root e ≠ root d := by
  unfold headP
  rw [Bool.and_eq_true, List.all_eq_true]
  constructor
  · rintro ⟨h1, h2⟩
    refine ⟨h1, fun e he hh hr => ?_⟩
    have := h2 e (List.mem_range.2 he)
    rw [hh, decide_eq_true hr] at this
    cases this
  · rintro ⟨h1, h2⟩
    refine ⟨h1, fun e he => ?_⟩
    cases hh : has e with
    | false => rfl
    | true => rw [decide_eq_false (h2 e (List.mem_range.1 he) hh)]; rfl
theorem mem_headsP {k d : Nat} : d ∈ headsP has root k ↔ d < k ∧ headP has root d = true := by
  unfold headsP
  rw [List.mem_filter, List.mem_range]
theorem exists_head : ∀ (e : Nat), has e = true → ∃ d, d ≤ e ∧ headP has root d = true ∧ root d = root e := by
  intro e
  induction e using Nat.strongRecOn with
  | _ e ih =>
    intro he
    cases hp : headP has root e with
    | true => exact ⟨e, Nat.le_refl _, hp, rfl⟩
    | false =>
      have h2 : ¬ ∀ e', e' < e → has e' = true → root e' ≠ root e := fun h => by rw [headP_iff.2 ⟨he, h⟩] at hp; cases hp
      obtain ⟨e', h3⟩ := Classical.not_forall.1 h2
      obtain ⟨h4, h5⟩ := Classical.not_imp.1 h3
      obtain ⟨h6, h7⟩ := Classical.not_imp.1 h5
      have h8 : root e' = root e := Classical.byContradiction h7
      obtain ⟨d, h9, h10, h11⟩ := ih e' h4 h6
      exact ⟨d, by omega, h10, h11.trans h8⟩
theorem membP_none {k d : Nat} (h : ∀ e, e < k → has e = true → root e ≠ root d) : membP has root k d = [] := by
  unfold membP
  rw [List.map_eq_nil_iff, List.filter_eq_nil_iff]
  intro e he
  cases hh : has e with
  | false => simp
  | true => simpa using h e (List.mem_range.1 he) hh
theorem mem_membP {k d : Nat} {z : Int} : z ∈ membP has root k d ↔ ∃ n : Nat, z = (n : Int) ∧ n < k ∧ has n = true ∧ root n = root d := by
  unfold membP
  rw [List.mem_map]
  constructor
  · rintro ⟨n, hn, rfl⟩
    rw [List.mem_filter, List.mem_range, Bool.and_eq_true, decide_eq_true_eq] at hn
    exact ⟨n, rfl, hn.1, hn.2.1, hn.2.2⟩
  · rintro ⟨n, rfl, h1, h2, h3⟩
    exact ⟨n, by rw [List.mem_filter, List.mem_range, Bool.and_eq_true, decide_eq_true_eq]; exact ⟨h1, h2, h3⟩, rfl⟩
theorem membP_sorted (k d : Nat) : (membP has root k d).Pairwise (· < ·) := by
  induction k with
  | zero => simp [membP]
  | succ k ih =>
    rw [membP_succ]
    split
    · rw [List.pairwise_append]
      refine ⟨ih, List.pairwise_singleton _ _, fun x hx y hy => ?_⟩
      obtain ⟨n, rfl, hn, _⟩ := mem_membP.1 hx
      obtain rfl := List.mem_singleton.1 hy
      omega
    · rw [List.append_nil]; exact ih
end
/-- The groups are what the least devices tell. -/
theorem groupG_heads (has : Nat → Bool) (root : Nat → Nat) : ∀ k, (groupG has root k).2 = (headsP has root k).map (membP has root k) ∧ ∀ r i, aget r (groupG has root k).1 = some i ↔ ∃ d, (headsP has root k)[i]? = some d ∧ root d = r
  | 0 => by
    refine ⟨rfl, fun r i => ?_⟩
    constructor
    · intro h; cases h
    · rintro ⟨d, h, _⟩
      simp [headsP] at h
  | k + 1 => by
    obtain ⟨ih1, ih2⟩ := groupG_heads has root k
    rw [groupG_succ]
    unfold stepG
    cases hk : has k with
    | false =>
      have hh : headsP has root (k + 1) = headsP has root k := by
        rw [headsP_succ, show headP has root k = false by unfold headP; rw [hk]; rfl]
        simp
      have hm : ∀ d, membP has root (k + 1) d = membP has root k d := fun d => by rw [membP_succ, hk]; simp
      rw [if_neg (by simp), hh, show membP has root (k + 1) = membP has root k from funext hm]
      exact ⟨ih1, ih2⟩
    | true =>
      rw [if_pos rfl]
      cases hg : aget (root k) (groupG has root k).1 with
      | some i =>
        obtain ⟨d, hd, hr⟩ := (ih2 _ _).1 hg
        have hdm := mem_headsP.1 (List.mem_of_getElem? hd)
        have hh : headsP has root (k + 1) = headsP has root k := by
          rw [headsP_succ, show headP has root k = false from Bool.eq_false_iff.2 fun h => (headP_iff.1 h).2 d hdm.1 (headP_iff.1 hdm.2).1 hr]
          simp
        simp only
        rw [hh, ih1]
        refine ⟨List.ext_getElem? fun j => ?_, ih2⟩
        rw [List.getElem?_set, List.getElem?_map, List.getElem?_map, List.length_map]
        by_cases e : i = j
        · subst e
          rw [if_pos rfl, if_pos (List.getElem?_eq_some_iff.1 hd).1, hd, List.getD_eq_getElem?_getD, List.getElem?_map, hd]
          simp only [Option.map_some, Option.getD_some]
          rw [membP_succ, hk, decide_eq_true hr.symm]
          rfl
        · rw [if_neg e]
          cases hj : (headsP has root k)[j]? with
          | none => rfl
          | some d' =>
            simp only [Option.map_some]
            rw [membP_succ, decide_eq_false (fun h => e (Option.some.inj (hg.symm.trans ((ih2 (root k) j).2 ⟨d', hj, h.symm⟩))))]
            simp
      | none =>
        have hno : ∀ d, d ∈ headsP has root k → root d ≠ root k := fun d hd hr => by
          obtain ⟨j, hj⟩ := List.mem_iff_getElem?.1 hd
          rw [(ih2 (root k) j).2 ⟨d, hj, hr⟩] at hg
          cases hg
        have hall : ∀ e, e < k → has e = true → root e ≠ root k := fun e he hh hr => by
          obtain ⟨d, h1, h2, h3⟩ := exists_head (has := has) (root := root) e hh
          exact hno d (mem_headsP.2 ⟨by omega, h2⟩) (h3.trans hr)
        have hh : headsP has root (k + 1) = headsP has root k ++ [k] := by rw [headsP_succ, headP_iff.2 ⟨hk, hall⟩]; rfl
        simp only
        rw [hh, ih1]
        refine ⟨?_, fun r i => ?_⟩
        · rw [List.map_append]
          congr 1
          · refine List.map_congr_left fun d hd => ?_
            rw [membP_succ, decide_eq_false (fun h => hno d hd h.symm)]
            simp
          · simp only [List.map_cons, List.map_nil]
            rw [membP_succ, hk, decide_eq_true rfl, membP_none hall]
            rfl
        · rw [aget_aput, List.length_map]
          by_cases e : root k = r
          · subst e
            simp only [if_true, ite_true]
            constructor
            · intro h
              obtain rfl := Option.some.inj h
              exact ⟨k, by rw [List.getElem?_append_right (Nat.le_refl _), Nat.sub_self]; rfl, rfl⟩
            · rintro ⟨d, h1, h2⟩
              rcases Nat.lt_or_ge i (headsP has root k).length with hi | hi
              · rw [List.getElem?_append_left hi] at h1
                exact absurd h2 (hno d (List.mem_of_getElem? h1))
              · have := (List.getElem?_eq_some_iff.1 h1).1
                rw [List.length_append, List.length_singleton] at this
                rw [show i = (headsP has root k).length by omega]
          · have e2 : ¬ r = root k := fun h => e h.symm
            simp only [e, e2, if_false, ite_false]
            rw [ih2]
            constructor
            · rintro ⟨d, h1, h2⟩
              exact ⟨d, by rw [List.getElem?_append_left (List.getElem?_eq_some_iff.1 h1).1]; exact h1, h2⟩
            · rintro ⟨d, h1, h2⟩
              rcases Nat.lt_or_ge i (headsP has root k).length with hi | hi
              · rw [List.getElem?_append_left hi] at h1
                exact ⟨d, h1, h2⟩
              · rw [List.getElem?_append_right hi] at h1
                have := (List.getElem?_eq_some_iff.1 h1).1
                rw [List.length_singleton] at this
                rw [show i - (headsP has root k).length = 0 by omega] at h1
                obtain rfl := Option.some.inj h1
                exact absurd h2 e
/-- What is closed under sharing holds behind a root for all or for none. -/
def ConnI (C P : Nat → Prop) (us : List Nat) : Prop := ∀ x y, x < 17 → y < 17 → P x → P y → rootU us x = rootU us y → (C x ↔ C y)
theorem stepU_conn {C P : Nat → Prop} {both : Nat → Nat → Bool} (hC : ∀ a b, both a b = true → P a ∧ P b ∧ (C a ↔ C b)) {us : List Nat} (h : UOk us) {a b : Nat} (ha : a < 17) (hb : b < 17) (inv : ConnI C P us) : ConnI C P (stepU both us a b) := by
  unfold stepU
  split
  · rename_i hs
    obtain ⟨pa, pb, hab⟩ := hC a b hs
    have hra := rootU_fix h a ha
    have hrb := rootU_fix h b hb
    have key : ∀ r s, us[r]? = some r → us[s]? = some s → s ≤ r → ((r = rootU us a ∧ s = rootU us b) ∨ (r = rootU us b ∧ s = rootU us a)) → ConnI C P (us.set r s) := by
      intro r s hr hs2 hsr hrs x y hx hy px py e
      rw [rootU_set h hr hs2 hsr x hx, rootU_set h hr hs2 hsr y hy] at e
      by_cases e1 : rootU us x = r
      · rw [if_pos e1] at e
        by_cases e2 : rootU us y = r
        · exact inv x y hx hy px py (e1.trans e2.symm)
        · rw [if_neg e2] at e
          rcases hrs with ⟨rfl, rfl⟩ | ⟨rfl, rfl⟩
          · exact (inv x a hx ha px pa e1).trans (hab.trans (inv b y hb hy pb py e))
          · exact (inv x b hx hb px pb e1).trans (hab.symm.trans (inv a y ha hy pa py e))
      · rw [if_neg e1] at e
        by_cases e2 : rootU us y = r
        · rw [if_pos e2] at e
          rcases hrs with ⟨rfl, rfl⟩ | ⟨rfl, rfl⟩
          · exact (inv x b hx hb px pb e).trans (hab.symm.trans (inv a y ha hy pa py e2.symm))
          · exact (inv x a hx ha px pa e).trans (hab.trans (inv b y hb hy pb py e2.symm))
        · rw [if_neg e2] at e
          exact inv x y hx hy px py e
    rcases Nat.le_total (rootU us a) (rootU us b) with hle | hle
    · rw [Nat.max_eq_right hle, Nat.min_eq_left hle]
      exact key _ _ hrb hra hle (.inr ⟨rfl, rfl⟩)
    · rw [Nat.max_eq_left hle, Nat.min_eq_right hle]
      exact key _ _ hra hrb hle (.inl ⟨rfl, rfl⟩)
  · exact inv
theorem innerU_conn {C P : Nat → Prop} {both : Nat → Nat → Bool} (hC : ∀ a b, both a b = true → P a ∧ P b ∧ (C a ↔ C b)) {us : List Nat} (h : UOk us) {a : Nat} (ha : a < 17) (inv : ConnI C P us) : ∀ b, b ≤ 17 → ConnI C P (innerU both us a b)
  | 0, _ => inv
  | b + 1, hb => by
    rw [innerU_succ]
    exact stepU_conn hC (h.inner both a b) ha (by omega) (innerU_conn hC h ha inv b (by omega))
theorem outerU_conn {C P : Nat → Prop} {both : Nat → Nat → Bool} (hC : ∀ a b, both a b = true → P a ∧ P b ∧ (C a ↔ C b)) {us : List Nat} (h : UOk us) (inv : ConnI C P us) : ∀ a, a ≤ 17 → ConnI C P (outerU both us a)
  | 0, _ => inv
  | a + 1, ha => by
    rw [outerU_succ]
    exact innerU_conn hC (h.outer both a) (by omega) (outerU_conn hC h inv a (by omega)) a (by omega)
/-- What a search leans on. -/
structure CtxP (has : Nat → Bool) (both : Nat → Nat → Bool) (root : Nat → Nat) : Prop where
  dev : ∀ {a}, has a = true → 1 ≤ a ∧ a ≤ 16
  hasb : ∀ {a b}, both a b = true → has a = true ∧ has b = true
  same : ∀ {a b}, both a b = true → root a = root b
  conn : ∀ C : Nat → Prop, (∀ a b, both a b = true → C a → C b) → ∀ x y, has x = true → has y = true → root x = root y → C x → C y
theorem bothI_comm (ms : List PM) (f : ByteArray) (a b : Nat) : bothI ms f a b = bothI ms f b a := by
  unfold bothI
  cases ha : ofI ms a <;> cases hb : ofI ms b <;> simp only
  exact bothP_comm _ _ _
theorem bothI_has {ms : List PM} {f : ByteArray} {a b : Nat} (h : bothI ms f a b = true) : hasI ms f a = true ∧ hasI ms f b = true := by
  unfold bothI at h
  unfold hasI
  cases ha : ofI ms a with
  | none => rw [ha] at h; cases h
  | some i =>
    cases hb : ofI ms b with
    | none => rw [ha, hb] at h; cases h
    | some j =>
      rw [ha, hb] at h
      obtain ⟨_, h1, h2⟩ := both_parts h
      exact ⟨shares_has h1, shares_has h2⟩
theorem hasI_some {ms : List PM} {f : ByteArray} {a : Nat} (h : hasI ms f a = true) : (ofI ms a).isSome = true := by
  unfold hasI at h
  cases ho : ofI ms a with
  | none => rw [ho] at h; cases h
  | some i => rfl
theorem bothI_ne {ms : List PM} {f : ByteArray} {a b : Nat} (h : bothI ms f a b = true) : a ≠ b := by
  rintro rfl
  unfold bothI at h
  cases ha : ofI ms a with
  | none => rw [ha] at h; cases h
  | some i =>
    rw [ha] at h
    exact (both_parts h).1 rfl
def rootOf (ms : List PM) (f : ByteArray) : Nat → Nat := rootU (outerU (bothI ms f) (usL (ofI ms)) 17)
theorem usL_root (os : Nat → Option Nat) {x : Nat} (hx : x < 17) (h : (os x).isSome = true) : rootU (usL os) x = x := by
  refine rootU_self ?_
  unfold usL
  rw [List.getElem?_map, List.getElem?_range hx]
  simp [h]
theorem ctx_of (ms : List PM) (f : ByteArray) : CtxP (hasI ms f) (bothI ms f) (rootOf ms f) := by
  refine ⟨hasI_dev, bothI_has, fun {a b} h => ?_, fun C hC x y hx hy hr hcx => ?_⟩
  · have h1 := hasI_dev (bothI_has h).1
    have h2 := hasI_dev (bothI_has h).2
    rcases Nat.lt_trichotomy a b with hlt | rfl | hlt
    · exact (outerU_both hlt (by rw [bothI_comm]; exact h) (usL_ok _) 17 (by omega) (by omega)).symm
    · rfl
    · exact outerU_both hlt h (usL_ok _) 17 (by omega) (by omega)
  · have hx1 := hasI_dev hx
    have hy1 := hasI_dev hy
    have h0 : ConnI C (fun a => hasI ms f a = true) (usL (ofI ms)) := fun x y hx hy px py e => by
      rw [usL_root _ hx (hasI_some px), usL_root _ hy (hasI_some py)] at e
      rw [e]
    have h1 := outerU_conn (C := C) (P := fun a => hasI ms f a = true) (both := bothI ms f) (fun a b h => ⟨(bothI_has h).1, (bothI_has h).2, hC a b h, hC b a (by rw [bothI_comm]; exact h)⟩) (usL_ok _) h0 17 (Nat.le_refl _)
    exact (h1 x y (by omega) (by omega) hx hy hr).1 hcx
theorem partsU_heads (ms : List PM) (f : ByteArray) : partsU ms f = (headsP (hasI ms f) (rootOf ms f) 17).map (membP (hasI ms f) (rootOf ms f) 17) := (groupG_heads _ _ 17).1
theorem nodup_le : ∀ (n : Nat) (l : List Nat), l.Nodup → (∀ x ∈ l, x < n) → l.length ≤ n
  | 0, l, _, h => by
    cases l with
    | nil => exact Nat.le_refl _
    | cons x l => exact absurd (h x List.mem_cons_self) (Nat.not_lt_zero _)
  | n + 1, l, hn, h => by
    by_cases hm : n ∈ l
    · have h1 := nodup_le n (l.erase n) (hn.erase n) (fun x hx => by
        have h2 := h x (List.mem_of_mem_erase hx)
        have h3 : x ≠ n := fun e => by
          subst e
          exact absurd hx (List.Nodup.not_mem_erase hn)
        omega)
      rw [List.length_erase_of_mem hm] at h1
      omega
    · have h1 := nodup_le n l hn (fun x hx => by
        have h2 := h x hx
        have h3 : x ≠ n := fun e => hm (e ▸ hx)
        omega)
      omega
/-- Who is in a part that came before device d. -/
def DoneI (has : Nat → Bool) (root : Nat → Nat) (d : Nat) (dn : List Bool) : Prop := dn.length = 17 ∧ ∀ x, x < 17 → (dn[x]? = some true ↔ has x = true ∧ ∃ e, e < d ∧ has e = true ∧ root e = root x)
structure BfsI (has : Nat → Bool) (both : Nat → Nat → Bool) (root : Nat → Nat) (d : Nat) (dn : List Bool) (part : List Nat) (i k : Nat) : Prop where
  len : dn.length = 17
  hd : headP has root d = true
  nodup : part.Nodup
  mem : ∀ x ∈ part, has x = true ∧ root x = root d
  head : d ∈ part
  done : ∀ x, x < 17 → (dn[x]? = some true ↔ (has x = true ∧ ∃ e, e < d ∧ has e = true ∧ root e = root x) ∨ x ∈ part)
  clo : ∀ (j p : Nat), j < i → part[j]? = some p → ∀ x, both p x = true → x ∈ part
  cur : ∀ p, part[i]? = some p → ∀ x, x < k → both p x = true → x ∈ part
section
variable {has : Nat → Bool} {both : Nat → Nat → Bool} {root : Nat → Nat} {d : Nat} {dn : List Bool} {part : List Nat} {i k : Nat}
theorem DoneI.start (hc : CtxP has both root) : DoneI has root 1 (List.replicate 17 false) := by
  refine ⟨by simp, fun x hx => ?_⟩
  constructor
  · intro h
    rw [List.getElem?_replicate, if_pos hx] at h
    cases h
  · rintro ⟨_, e, he, hh, _⟩
    have := hc.dev hh
    omega
theorem DoneI.skip (h : DoneI has root d dn) (hd : d < 17) (hn : has d = false ∨ dn[d]? = some true) : DoneI has root (d + 1) dn ∧ headP has root d = false := by
  rcases hn with hn | hn
  · refine ⟨⟨h.1, fun x hx => (h.2 x hx).trans ⟨fun ⟨h1, e, he, h2⟩ => ⟨h1, e, by omega, h2⟩, fun ⟨h1, e, he, h2, h3⟩ => ⟨h1, e, ?_, h2, h3⟩⟩⟩, ?_⟩
    · have : e ≠ d := fun q => by rw [q, hn] at h2; cases h2
      omega
    · unfold headP; rw [hn]; rfl
  · obtain ⟨h1, e, he, hh, hr⟩ := (h.2 d hd).1 hn
    refine ⟨⟨h.1, fun x hx => (h.2 x hx).trans ⟨fun ⟨h1, e, he, h2⟩ => ⟨h1, e, by omega, h2⟩, fun ⟨g1, e', he', h2, h3⟩ => ?_⟩⟩, Bool.eq_false_iff.2 fun q => (headP_iff.1 q).2 e he hh hr⟩
    rcases Nat.lt_or_ge e' d with hl | hl
    · exact ⟨g1, e', hl, h2, h3⟩
    · have q : e' = d := by omega
      rw [q] at h3
      exact ⟨g1, e, he, hh, hr.trans h3⟩
theorem DoneI.take (h : DoneI has root d dn) (hc : CtxP has both root) (hd : has d = true) (hn : dn[d]? ≠ some true) : BfsI has both root d (dn.set d true) [d] 0 1 := by
  have hd16 := hc.dev hd
  refine ⟨by rw [List.length_set]; exact h.1, headP_iff.2 ⟨hd, fun e he hh hr => hn ((h.2 d (by omega)).2 ⟨hd, e, he, hh, hr⟩)⟩, by simp, fun x hx => ?_, by simp, fun x hx => ?_, fun j p hj => by omega, fun p hp x hx hb => ?_⟩
  · obtain rfl := List.mem_singleton.1 hx
    exact ⟨hd, rfl⟩
  · rw [List.getElem?_set, List.mem_singleton]
    by_cases e : d = x
    · subst e
      rw [if_pos rfl, if_pos (by have := h.1; omega)]
      simp
    · rw [if_neg e, h.2 x hx]
      constructor
      · exact .inl
      · rintro (h1 | h1)
        · exact h1
        · exact absurd h1.symm e
  · have := hc.dev (hc.hasb hb).2
    omega
theorem BfsI.le (h : BfsI has both root d dn part i k) (hc : CtxP has both root) : part.length ≤ 17 := nodup_le 17 part h.nodup fun x hx => by have := hc.dev (h.mem x hx).1; omega
theorem BfsI.no (h : BfsI has both root d dn part i k) (hc : CtxP has both root) {p : Nat} (hp : part[i]? = some p) (hn : has k = false ∨ dn[k]? = some true ∨ both p k = false) : BfsI has both root d dn part i (k + 1) := by
  refine ⟨h.len, h.hd, h.nodup, h.mem, h.head, h.done, h.clo, fun q hq x hx hb => ?_⟩
  rcases Nat.lt_or_ge x k with hl | hl
  · exact h.cur q hq x hl hb
  · obtain rfl : x = k := by omega
    obtain rfl : p = q := Option.some.inj (hp.symm.trans hq)
    have hx2 := hc.dev (hc.hasb hb).2
    rcases hn with hn | hn | hn
    · rw [(hc.hasb hb).2] at hn; cases hn
    · rcases (h.done x (by omega)).1 hn with ⟨h1, e, he, hh, hr⟩ | h1
      · have h2 : root e = root d := hr.trans ((hc.same hb).symm.trans (h.mem p (List.mem_of_getElem? hp)).2)
        exact absurd h2 ((headP_iff.1 h.hd).2 e he hh)
      · exact h1
    · rw [hn] at hb; cases hb
theorem BfsI.yes (h : BfsI has both root d dn part i k) (hc : CtxP has both root) {p : Nat} (hp : part[i]? = some p) (hn : dn[k]? ≠ some true) (hb : both p k = true) : BfsI has both root d (dn.set k true) (part ++ [k]) i (k + 1) := by
  have hk := hc.dev (hc.hasb hb).2
  have hkp : k ∉ part := fun hm => hn ((h.done k (by omega)).2 (.inr hm))
  have hil := (List.getElem?_eq_some_iff.1 hp).1
  refine ⟨by rw [List.length_set]; exact h.len, h.hd, ?_, fun x hx => ?_, List.mem_append_left _ h.head, fun x hx => ?_, fun j q hj hq x hx => ?_, fun q hq x hx hbq => ?_⟩
  · rw [List.nodup_append]
    refine ⟨h.nodup, by simp, fun a ha b hb2 => ?_⟩
    obtain rfl := List.mem_singleton.1 hb2
    exact fun e => hkp (e ▸ ha)
  · rcases List.mem_append.1 hx with hx | hx
    · exact h.mem x hx
    · obtain rfl := List.mem_singleton.1 hx
      exact ⟨(hc.hasb hb).2, (hc.same hb).symm.trans (h.mem p (List.mem_of_getElem? hp)).2⟩
  · rw [List.getElem?_set, List.mem_append, List.mem_singleton]
    by_cases e : k = x
    · subst e
      rw [if_pos rfl, if_pos (by have := h.len; omega)]
      simp
    · rw [if_neg e, h.done x hx]
      constructor
      · rintro (h1 | h1)
        · exact .inl h1
        · exact .inr (.inl h1)
      · rintro (h1 | h1 | h1)
        · exact .inl h1
        · exact .inr h1
        · exact absurd h1.symm e
  · rw [List.getElem?_append_left (by omega)] at hq
    exact List.mem_append_left _ (h.clo j q hj hq x hx)
  · rw [List.getElem?_append_left hil] at hq
    rcases Nat.lt_or_ge x k with hl | hl
    · exact List.mem_append_left _ (h.cur q hq x hl hbq)
    · obtain rfl : x = k := by omega
      simp
theorem BfsI.next (h : BfsI has both root d dn part i 17) (hc : CtxP has both root) : BfsI has both root d dn part (i + 1) 1 := by
  refine ⟨h.len, h.hd, h.nodup, h.mem, h.head, h.done, fun j p hj hp x hx => ?_, fun p _ x hx hb => ?_⟩
  · rcases Nat.lt_or_ge j i with hl | hl
    · exact h.clo j p hl hp x hx
    · obtain rfl : j = i := by omega
      have := hc.dev (hc.hasb hx).2
      exact h.cur p hp x (by omega) hx
  · have := hc.dev (hc.hasb hb).2
    omega
theorem BfsI.all (h : BfsI has both root d dn part part.length k) (hc : CtxP has both root) (x : Nat) : x ∈ part ↔ has x = true ∧ root x = root d := by
  constructor
  · exact h.mem x
  · rintro ⟨h1, h2⟩
    refine hc.conn (· ∈ part) (fun a b hab ha => ?_) d x (h.mem d h.head).1 h1 h2.symm h.head
    obtain ⟨j, hj⟩ := List.mem_iff_getElem?.1 ha
    exact h.clo j a (List.getElem?_eq_some_iff.1 hj).1 hj b hab
theorem BfsI.back (h : BfsI has both root d dn part part.length k) (hc : CtxP has both root) : DoneI has root (d + 1) dn := by
  refine ⟨h.len, fun x hx => ?_⟩
  rw [h.done x hx, h.all hc x]
  constructor
  · rintro (⟨h1, e, he, h2⟩ | ⟨h1, h2⟩)
    · exact ⟨h1, e, by omega, h2⟩
    · exact ⟨h1, d, by omega, (h.mem d h.head).1, h2.symm⟩
  · rintro ⟨h1, e, he, h2, h3⟩
    rcases Nat.lt_or_ge e d with hl | hl
    · exact .inl ⟨h1, e, hl, h2, h3⟩
    · obtain rfl : e = d := by omega
      exact .inr ⟨h1, h3.symm⟩
theorem mem_insR {d x : Int} {l : List Int} : x ∈ insR d l ↔ x = d ∨ x ∈ l := by
  unfold insR
  rw [List.mem_append, List.mem_cons]
  have h : x ∈ l ↔ x ∈ l.takeWhile (fun x => decide (x ≤ d)) ∨ x ∈ l.dropWhile (fun x => decide (x ≤ d)) := by
    rw [← List.mem_append, List.takeWhile_append_dropWhile]
  rw [h]
  constructor
  · rintro (h | h | h)
    · exact .inr (.inl h)
    · exact .inl h
    · exact .inr (.inr h)
  · rintro (h | h | h)
    · exact .inr (.inl h)
    · exact .inl h
    · exact .inr (.inr h)
theorem insR_sorted {d : Int} : ∀ {l : List Int}, l.Pairwise (· < ·) → d ∉ l → (insR d l).Pairwise (· < ·)
  | [], _, _ => by simp [insR]
  | y :: l, hl, hd => by
    rw [List.pairwise_cons] at hl
    by_cases hy : y ≤ d
    · have hyd : y < d := by
        have : d ≠ y := fun e => hd (e ▸ List.mem_cons_self)
        omega
      have ih := insR_sorted hl.2 (fun h => hd (List.mem_cons_of_mem _ h))
      have e : insR d (y :: l) = y :: insR d l := by
        unfold insR
        rw [List.takeWhile_cons, List.dropWhile_cons, if_pos (by simpa using hy), if_pos (by simpa using hy)]
        rfl
      rw [e, List.pairwise_cons]
      refine ⟨fun z hz => ?_, ih⟩
      rcases mem_insR.1 hz with rfl | hz
      · exact hyd
      · exact hl.1 z hz
    · have e : insR d (y :: l) = d :: y :: l := by
        unfold insR
        rw [List.takeWhile_cons, List.dropWhile_cons, if_neg (by simpa using hy), if_neg (by simpa using hy)]
        rfl
      rw [e, List.pairwise_cons, List.pairwise_cons]
      refine ⟨fun z hz => ?_, hl⟩
      rcases List.mem_cons.1 hz with rfl | hz
      · omega
      · have := hl.1 z hz
        omega
/-- What the last loop makes of a part. -/
def sortP (l : List Nat) : List Int := l.foldl (fun (s : List Int) (x : Nat) => insR (x : Int) s) []
theorem sortP_snoc (l : List Nat) (x : Nat) : sortP (l ++ [x]) = insR (x : Int) (sortP l) := by unfold sortP; rw [List.foldl_append]; rfl
theorem sortP_is : ∀ (n : Nat) (l : List Nat), l.length = n → l.Nodup → (sortP l).Pairwise (· < ·) ∧ ∀ z : Int, z ∈ sortP l ↔ ∃ x ∈ l, z = ((x : Nat) : Int)
  | 0, l, hl, _ => by
    obtain rfl := List.length_eq_zero_iff.1 hl
    simp [sortP]
  | n + 1, l, hl, hn => by
    obtain ⟨l', x, rfl⟩ : ∃ l' x, l = l' ++ [x] := ⟨l.dropLast, l.getLast (by intro e; rw [e] at hl; cases hl), (List.dropLast_concat_getLast _).symm⟩
    rw [List.nodup_append] at hn
    obtain ⟨h1, h2⟩ := sortP_is n l' (by rw [List.length_append, List.length_singleton] at hl; omega) hn.1
    rw [sortP_snoc]
    refine ⟨insR_sorted h1 fun hm => ?_, fun z => ?_⟩
    · obtain ⟨y, hy, e⟩ := (h2 _).1 hm
      exact hn.2.2 y hy x (by simp) (by omega)
    · rw [mem_insR, h2]
      constructor
      · rintro (rfl | ⟨y, hy, rfl⟩)
        · exact ⟨x, by simp, rfl⟩
        · exact ⟨y, List.mem_append_left _ hy, rfl⟩
      · rintro ⟨y, hy, rfl⟩
        rcases List.mem_append.1 hy with hy | hy
        · exact .inr ⟨y, hy, rfl⟩
        · obtain rfl := List.mem_singleton.1 hy
          exact .inl rfl
theorem pw_ext : ∀ {l l' : List Int}, l.Pairwise (· < ·) → l'.Pairwise (· < ·) → (∀ z, z ∈ l ↔ z ∈ l') → l = l'
  | [], [], _, _, _ => rfl
  | [], y :: l', _, _, h => by have := (h y).2 List.mem_cons_self; cases this
  | x :: l, [], _, _, h => by have := (h x).1 List.mem_cons_self; cases this
  | x :: l, y :: l', h1, h2, h => by
    rw [List.pairwise_cons] at h1 h2
    have e : x = y := by
      rcases List.mem_cons.1 ((h x).1 List.mem_cons_self) with e | hx
      · exact e
      · rcases List.mem_cons.1 ((h y).2 List.mem_cons_self) with e | hy
        · exact e.symm
        · have := h1.1 y hy
          have := h2.1 x hx
          omega
    subst e
    rw [pw_ext h1.2 h2.2 fun z => ?_]
    constructor
    · intro hz
      rcases List.mem_cons.1 ((h z).1 (List.mem_cons_of_mem _ hz)) with rfl | hz2
      · exact absurd (h1.1 z hz) (Int.lt_irrefl _)
      · exact hz2
    · intro hz
      rcases List.mem_cons.1 ((h z).2 (List.mem_cons_of_mem _ hz)) with rfl | hz2
      · exact absurd (h2.1 z hz) (Int.lt_irrefl _)
      · exact hz2
theorem BfsI.sorted (h : BfsI has both root d dn part part.length k) (hc : CtxP has both root) : sortP part = membP has root 17 d := by
  obtain ⟨h1, h2⟩ := sortP_is _ part rfl h.nodup
  refine pw_ext h1 (membP_sorted 17 d) fun z => ?_
  rw [h2, mem_membP]
  constructor
  · rintro ⟨x, hx, rfl⟩
    have h3 := (h.all hc x).1 hx
    have := hc.dev h3.1
    exact ⟨x, rfl, by omega, h3.1, h3.2⟩
  · rintro ⟨n, rfl, _, h3, h4⟩
    exact ⟨n, (h.all hc n).2 ⟨h3, h4⟩, rfl⟩
end
end Go.Proofs.Ytikegnnlmfidfaa
