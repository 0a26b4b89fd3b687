/-
  Nets, in plain Lean: what NetArrives keeps.
-/
import Derived.Test.YthajlhifgafpkaaNetZg
import Derived.Test.YthajlhifgafpkaaMapIs
namespace Go.Proofs.Ythajlhifgafpkaa
def numsP (l : List Pk) : List Nat := l.map (·.num)
theorem mem_numsP {l : List Pk} {x : Nat} : x ∈ numsP l ↔ ∃ p ∈ l, p.num = x := by simp [numsP]
def outP (N : List Nat) (l : List Pk) : List Pk := l.filter fun p => decide (p.num ∉ N)
theorem sub_count {l kept : List Pk} (h : kept.Sublist l) : l.Pairwise (fun p q => p.num < q.num) → (outP (numsP kept) l).length + kept.length = l.length := by
  induction h with
  | slnil => intro _; rfl
  | @cons k l a h ih =>
    intro hp
    rw [List.pairwise_cons] at hp
    have ha : a.num ∉ numsP k := fun hm => by
      obtain ⟨p, hp1, hp2⟩ := mem_numsP.1 hm
      have := hp.1 p (h.subset hp1)
      omega
    have := ih hp.2
    unfold outP at this ⊢
    rw [List.filter_cons, if_pos (by simpa using ha), List.length_cons, List.length_cons]
    omega
  | @cons_cons k l a h ih =>
    intro hp
    rw [List.pairwise_cons] at hp
    have := ih hp.2
    unfold outP at this ⊢
    have e : l.filter (fun p => decide (p.num ∉ numsP (a :: k))) = l.filter (fun p => decide (p.num ∉ numsP k)) := List.filter_congr fun p hpl => by
      have := hp.1 p hpl
      have hne : p.num ≠ a.num := by omega
      simp [numsP, hne]
    rw [List.filter_cons, if_neg (by simp [numsP]), e, List.length_cons, List.length_cons]
    omega
/-- What a call does to what is in flight. -/
structure Step (s s' : NS) (kept new : List Pk) : Prop where
  fl : s'.fl = kept ++ new
  sub : kept.Sublist s.fl
  last : s'.last = s.last + new.length
  num : ∀ p ∈ new, p.num = s.last + 1
theorem Step.same {s s' : NS} (h1 : s'.fl = s.fl) (h2 : s'.last = s.last) : Step s s' s.fl [] := ⟨by simp [h1], List.Sublist.refl _, by simp [h2], fun p hp => by cases hp⟩
theorem Step.put (s : NS) (a b : Int) (r : Nat) (l : List UInt8) : Step s (s.put a b r l) s.fl [⟨s.last + 1, a, b, r, l⟩] := ⟨rfl, List.Sublist.refl _, rfl, fun p hp => by rw [List.mem_singleton.1 hp]⟩
theorem up_step (s : NS) (a b : Int) : Step s (s.up a b).2 s.fl [] := Step.same (up_fl s a b).1 (up_fl s a b).2
theorem down_step (s : NS) (a b : Int) : ∃ kept, Step s (s.down a b).2 kept [] := by
  unfold NS.down
  split
  · exact ⟨_, Step.same rfl rfl⟩
  · split
    · exact ⟨_, Step.same rfl rfl⟩
    · exact ⟨_, (by simp; rfl), List.filter_sublist, by simp, fun p hp => by cases hp⟩
theorem take_step (s : NS) (n : Nat) : ∃ kept, Step s (s.take n).2 kept [] := by
  unfold NS.take
  cases s.find n with
  | none => exact ⟨_, Step.same rfl rfl⟩
  | some i => exact ⟨_, (by simp; rfl), List.eraseIdx_sublist _ _, by simp, fun p hp => by cases hp⟩
theorem twice_step (s : NS) (n : Nat) : ∃ kept new, Step s (s.twice n).2 kept new := by
  unfold NS.twice
  cases s.find n with
  | none => exact ⟨_, _, Step.same rfl rfl⟩
  | some i =>
    simp only []
    split
    · exact ⟨_, _, Step.same rfl rfl⟩
    · exact ⟨_, _, Step.put _ _ _ _ _⟩
theorem send_step (s : NS) (a b : Int) (l : List UInt8) : ∃ kept new, Step s (s.send a b l).2 kept new := by
  unfold NS.send
  split
  · exact ⟨_, _, Step.same rfl rfl⟩
  · split
    · exact ⟨_, _, Step.same rfl rfl⟩
    · split
      · exact ⟨_, _, Step.same rfl rfl⟩
      · exact ⟨_, _, Step.put _ _ _ _ _⟩
theorem call_step (s : NS) (k a b : Int) (n : Nat) (l : List UInt8) : ∃ kept new, Step s (s.call k a b n l).2 kept new := by
  unfold NS.call
  split
  · exact ⟨_, _, up_step s a b⟩
  · split
    · exact (down_step s a b).imp fun _ h => ⟨_, h⟩
    · split
      · exact (take_step s n).imp fun _ h => ⟨_, h⟩
      · split
        · exact (take_step s n).imp fun _ h => ⟨_, h⟩
        · split
          · exact twice_step s n
          · exact send_step s a b l
theorem Step.count {s s' : NS} {kept new : List Pk} (h : Step s s' kept new) (hg : s.good) : (outP (numsP s'.fl) s.fl).length + s'.fl.length + s.last = s.fl.length + s'.last := by
  have e : outP (numsP s'.fl) s.fl = outP (numsP kept) s.fl := List.filter_congr fun p hp => by
    have h1 := (hg.rng p hp).2
    have h2 : p.num ∉ numsP new := fun hm => by
      obtain ⟨q, hq1, hq2⟩ := mem_numsP.1 hm
      have := h.num q hq1
      omega
    rw [h.fl]
    simp only [numsP, List.map_append, List.mem_append, not_or] at h2 ⊢
    simp [h2]
  have := sub_count h.sub hg.asc
  rw [e, h.last, h.fl, List.length_append]
  omega
theorem Step.mem {s s' : NS} {kept new : List Pk} (h : Step s s' kept new) {p : Pk} (hp : p ∈ s'.fl) : p ∈ s.fl ∨ p.num = s.last + 1 := by
  rw [h.fl] at hp
  rcases List.mem_append.1 hp with hp | hp
  · exact .inl (h.sub.subset hp)
  · exact .inr (h.num p hp)
theorem aget_ne {α β : Type} [DecidableEq α] {k : α} : ∀ {l : List (α × β)}, aget k l = none → ∀ x ∈ l, x.1 ≠ k
  | [], _, x, hx => by cases hx
  | y :: l, h, x, hx => by
    rw [aget] at h
    split at h
    · cases h
    · rename_i hne
      rcases List.mem_cons.1 hx with rfl | hx
      · exact hne
      · exact aget_ne h x hx
/-- What is noted as gone. -/
def goneS (N : List Nat) (lg : List (Nat × Bool)) (p : Pk) : List (Nat × Bool) := if p.num ∈ N then lg else aput p.num true lg
theorem goneS_fold (N : List Nat) : ∀ (l : List Pk) (lg : List (Nat × Bool)), l.Pairwise (fun p q => p.num < q.num) → (∀ p ∈ l, aget p.num lg = none) →
    (l.foldl (goneS N) lg).length = lg.length + (outP N l).length ∧ (∀ x, aget x (l.foldl (goneS N) lg) = if x ∈ numsP (outP N l) then some true else aget x lg) ∧ ∀ y ∈ l.foldl (goneS N) lg, y ∈ lg ∨ y.1 ∈ numsP l
  | [], lg, _, _ => ⟨by simp [outP], fun x => by simp [outP, numsP], fun y hy => .inl hy⟩
  | p :: l, lg, hp, hn => by
    rw [List.pairwise_cons] at hp
    have h0 := hn p List.mem_cons_self
    by_cases hm : p.num ∈ N
    · have e1 : goneS N lg p = lg := if_pos hm
      have e2 : outP N (p :: l) = outP N l := by unfold outP; rw [List.filter_cons, if_neg (by simpa using hm)]
      obtain ⟨r1, r2, r3⟩ := goneS_fold N l lg hp.2 fun q hq => hn q (List.mem_cons_of_mem _ hq)
      rw [List.foldl_cons, e1, e2]
      exact ⟨r1, r2, fun y hy => (r3 y hy).imp id fun h => by rw [numsP, List.map_cons]; exact List.mem_cons_of_mem _ h⟩
    · have e1 : goneS N lg p = aput p.num true lg := if_neg hm
      have e2 : outP N (p :: l) = p :: outP N l := by unfold outP; rw [List.filter_cons, if_pos (by simpa using hm)]
      have e3 : aput p.num true lg = lg ++ [(p.num, true)] := aput_none (aget_ne h0)
      have hne : ∀ q ∈ l, p.num ≠ q.num := fun q hq => by have := hp.1 q hq; omega
      obtain ⟨r1, r2, r3⟩ := goneS_fold N l (aput p.num true lg) hp.2 fun q hq => by rw [aget_aput, if_neg (hne q hq)]; exact hn q (List.mem_cons_of_mem _ hq)
      rw [List.foldl_cons, e1, e2]
      refine ⟨by rw [r1, e3]; simp; omega, fun x => ?_, fun y hy => ?_⟩
      · have e4 : x ∈ numsP (p :: outP N l) ↔ p.num = x ∨ x ∈ numsP (outP N l) := by
          rw [show numsP (p :: outP N l) = p.num :: numsP (outP N l) from rfl, List.mem_cons]
          exact ⟨fun h => h.imp Eq.symm id, fun h => h.imp Eq.symm id⟩
        rw [r2, aget_aput]
        by_cases h1 : x ∈ numsP (outP N l)
        · rw [if_pos h1, if_pos (e4.2 (.inr h1))]
        · rw [if_neg h1]
          by_cases h2 : p.num = x
          · rw [if_pos h2, if_pos (e4.2 (.inl h2))]
          · rw [if_neg h2, if_neg (fun h => (e4.1 h).elim h2 h1)]
      · rcases r3 y hy with h | h
        · rw [e3] at h
          rcases List.mem_append.1 h with h | h
          · exact .inl h
          · rw [List.mem_singleton.1 h]
            exact .inr (by simp [numsP])
        · exact .inr (by simp only [numsP, List.map_cons]; exact List.mem_cons_of_mem _ h)
structure GInv (lg : List (Nat × Bool)) (s : NS) : Prop where
  len : lg.length + s.fl.length = s.last
  apart : ∀ p ∈ s.fl, aget p.num lg = none
  le : ∀ x ∈ lg, x.1 ≤ s.last
theorem GInv.new : GInv [] NS.new := ⟨rfl, fun p hp => (by cases hp), fun x hx => (by cases hx)⟩
theorem aget_big {lg : List (Nat × Bool)} {m : Nat} (h : ∀ x ∈ lg, x.1 ≤ m) : aget (m + 1) lg = none := aget_none fun x hx => by have := h x hx; omega
theorem GInv.step {lg : List (Nat × Bool)} {s s' : NS} {kept new : List Pk} (h : GInv lg s) (hg : s.good) (hs : Step s s' kept new) : GInv (s.fl.foldl (goneS (numsP s'.fl)) lg) s' := by
  obtain ⟨r1, r2, r3⟩ := goneS_fold (numsP s'.fl) s.fl lg hg.asc h.apart
  have hc := hs.count hg
  have hl := h.len
  refine ⟨by rw [r1]; omega, fun p hp => ?_, fun x hx => ?_⟩
  · rw [r2, if_neg fun hm => by
      obtain ⟨q, hq1, hq2⟩ := mem_numsP.1 hm
      have := (List.mem_filter.1 hq1).2
      rw [hq2] at this
      simp only [decide_eq_true_eq] at this
      exact this (mem_numsP.2 ⟨p, hp, rfl⟩)]
    rcases hs.mem hp with h1 | h1
    · exact h.apart p h1
    · rw [h1]; exact aget_big h.le
  · have := hs.last
    rcases r3 x hx with h1 | h1
    · have := h.le x h1; omega
    · obtain ⟨q, hq1, hq2⟩ := mem_numsP.1 h1
      have := (hg.rng q hq1).2
      omega
/-- What is no more in flight is noted. -/
theorem GInv.noted {lg : List (Nat × Bool)} {s s' : NS} (h : GInv lg s) (hg : s.good) {p : Pk} (hp : p ∈ s.fl) (hn : p.num ∉ numsP s'.fl) : aget p.num (s.fl.foldl (goneS (numsP s'.fl)) lg) = some true := by
  obtain ⟨_, r2, _⟩ := goneS_fold (numsP s'.fl) s.fl lg hg.asc h.apart
  have hm : p ∈ outP (numsP s'.fl) s.fl := List.mem_filter.2 ⟨hp, by simpa using hn⟩
  rw [r2, if_pos (mem_numsP.2 ⟨p, hm, rfl⟩)]
/-- What was sent: what is in flight is there. -/
def SInv {β : Type} (pk : β → Pk) (ls : List (Nat × β)) (s : NS) : Prop := ∀ p ∈ s.fl, ∃ v, aget p.num ls = some v ∧ pk v = p
theorem SInv.new {β : Type} (pk : β → Pk) : SInv pk [] NS.new := fun p hp => by cases hp
theorem SInv.fewer {β : Type} {pk : β → Pk} {ls : List (Nat × β)} {s s' : NS} (h : SInv pk ls s) (hs : ∀ p ∈ s'.fl, p ∈ s.fl) : SInv pk ls s' := fun p hp => h p (hs p hp)
theorem call_fewer {s : NS} {k a b : Int} {n : Nat} {l : List UInt8} (h : k % 6 = 0 ∨ k % 6 = 1 ∨ k % 6 = 2 ∨ k % 6 = 3) : ∀ p ∈ (s.call k a b n l).2.fl, p ∈ s.fl := by
  have hno : ∀ (s' : NS) (kept : List Pk), Step s s' kept [] → ∀ p ∈ s'.fl, p ∈ s.fl := fun s' kept hs p hp => by
    rw [hs.fl, List.append_nil] at hp
    exact hs.sub.subset hp
  unfold NS.call
  split
  · exact hno _ _ (up_step s a b)
  · split
    · obtain ⟨kept, h1⟩ := down_step s a b; exact hno _ _ h1
    · split
      · obtain ⟨kept, h1⟩ := take_step s n; exact hno _ _ h1
      · split
        · obtain ⟨kept, h1⟩ := take_step s n; exact hno _ _ h1
        · omega
theorem take_found {s : NS} {n : Nat} (hg : s.good) (h : (s.take n).1.2 = 0) : ∃ p ∈ s.fl, p.num = n ∧ (s.take n).1.1 = p ∧ n ∉ numsP (s.take n).2.fl ∧ (s.take n).2.link = s.link := by
  unfold NS.take at h ⊢
  cases hf : s.find n with
  | none => rw [hf] at h; cases h
  | some i =>
    have hi := NS.find_lt hf
    have hp := (List.findIdx?_eq_some_iff_getElem.1 hf).2.1
    have e : s.fl.getD i zeroPk = s.fl[i] := by rw [List.getD_eq_getElem?_getD, List.getElem?_eq_getElem hi]; rfl
    have hn : (s.fl[i]).num = n := by simpa using hp
    refine ⟨s.fl[i], List.getElem_mem hi, hn, e, fun hm => ?_, rfl⟩
    obtain ⟨q, hq1, hq2⟩ := mem_numsP.1 hm
    obtain ⟨j, hj, hji, hqj⟩ := List.mem_eraseIdx_iff_getElem.1 hq1
    have ha := List.pairwise_iff_getElem.1 hg.asc
    rcases Nat.lt_or_ge i j with h1 | h1
    · have := ha i j hi hj h1
      rw [hqj] at this
      omega
    · have := ha j i hj hi (by omega)
      rw [hqj] at this
      omega
theorem twice_found {s : NS} {n : Nat} (h : (s.twice n).1.2 = 0) : ∃ p ∈ s.fl, p.num = n ∧ (s.twice n).1.1 = s.last + 1 ∧ (s.twice n).2.fl = s.fl ++ [⟨s.last + 1, p.frm, p.too, p.run, p.bytes⟩] := by
  unfold NS.twice at h ⊢
  cases hf : s.find n with
  | none => rw [hf] at h; cases h
  | some i =>
    rw [hf] at h
    simp only [] at h ⊢
    have hi := NS.find_lt hf
    have hp := (List.findIdx?_eq_some_iff_getElem.1 hf).2.1
    have e : s.fl.getD i zeroPk = s.fl[i] := by rw [List.getD_eq_getElem?_getD, List.getElem?_eq_getElem hi]; rfl
    split
    · rename_i h1
      rw [if_pos h1] at h
      cases h
    · exact ⟨s.fl[i], List.getElem_mem hi, by simpa using hp, rfl, by rw [e]; rfl⟩
theorem send_found {s : NS} {a b : Int} {l : List UInt8} (h : (s.send a b l).1.2 = 0) : ∃ r, (s.send a b l).2.is a b = (true, r) ∧ (s.send a b l).1.1 = s.last + 1 ∧ (s.send a b l).2.fl = s.fl ++ [⟨s.last + 1, a, b, r, l⟩] := by
  unfold NS.send at h ⊢
  split
  · rename_i h1; rw [if_pos h1] at h; cases h
  · split
    · rename_i h1 h2; rw [if_neg h1, if_pos h2] at h; cases h
    · split
      · rename_i h1 h2 h3; rw [if_neg h1, if_neg h2, if_pos h3] at h; cases h
      · rename_i h1 h2 _
        refine ⟨(s.link (keyI a b)).2, ?_, rfl, rfl⟩
        unfold NS.is
        rw [if_neg h1]
        have h3 : (s.link (keyI a b)).1 = true := by simpa using h2
        exact Prod.ext h3 rfl
/-- One more that was sent is noted. -/
theorem SInv.put {β : Type} {pk : β → Pk} {ls : List (Nat × β)} {s s' : NS} (h : SInv pk ls s) (hg : s.good) {q : Pk} (hf : s'.fl = s.fl ++ [q]) (hq : q.num = s.last + 1) {v : β} (hv : pk v = q) : SInv pk (aput q.num v ls) s' := fun p hp => by
  rw [hf] at hp
  rcases List.mem_append.1 hp with hp | hp
  · obtain ⟨u, h1, h2⟩ := h p hp
    refine ⟨u, ?_, h2⟩
    rw [aget_aput, if_neg (by have := (hg.rng p hp).2; omega), h1]
  · rw [List.mem_singleton.1 hp]
    exact ⟨v, by rw [aget_aput, if_pos rfl], hv⟩
theorem SInv.drop {β : Type} {pk : β → Pk} {ls : List (Nat × β)} {s : NS} {n : Nat} (h : SInv pk ls s) (hp : ls.Pairwise (fun x y => x.1 ≠ y.1)) (hn : n ∉ numsP s.fl) : SInv pk (adel n ls) s := fun p hm => by
  obtain ⟨u, h1, h2⟩ := h p hm
  refine ⟨u, ?_, h2⟩
  rw [aget_adel _ _ hp, if_neg (fun e => hn (mem_numsP.2 ⟨p, hm, e.symm⟩)), h1]
end Go.Proofs.Ythajlhifgafpkaa
