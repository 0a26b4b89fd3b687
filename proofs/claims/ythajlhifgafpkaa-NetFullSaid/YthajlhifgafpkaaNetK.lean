/-
  Nets: a full net, in plain Lean.
-/
import Derived.Test.YthajlhifgafpkaaNetM
namespace Go.Proofs.Ythajlhifgafpkaa
/-- Links as after Up(1, 2). -/
def U : NS := (NS.new.up 1 2).2
def fullL (l : List UInt8) (m : Nat) : List Pk := (List.range m).map fun j => ⟨j + 1, 2, 1, 1, l⟩
def F (l : List UInt8) (m : Nat) : NS := ⟨U.link, fullL l m, m⟩
theorem F0 (l : List UInt8) : (NS.new.up 1 2).2 = F l 0 := rfl
theorem F_len (l : List UInt8) (m : Nat) : (F l m).fl.length = m := by simp [F, fullL]
theorem F_last (l : List UInt8) (m : Nat) : (F l m).last = m := rfl
theorem F_send (l : List UInt8) (m : Nat) (hm : m < 4096) (hl : l.length ≤ 262144) : (F l m).send 2 1 l = ((m + 1, 0), F l (m + 1)) := by
  have h1 : okDev 2 1 = true := by decide
  have h2 : ((F l m).link (keyI 2 1)) = (true, 1) := rfl
  have h3 := F_len l m
  unfold NS.send
  rw [h1, h2, h3, if_neg (by decide), if_neg (by decide), if_neg (by omega)]
  simp [NS.put, F, fullL, List.range_succ]
theorem F_full (a b : Int) (r : List UInt8) (s : NS) (hs : s.link = U.link) (hl : 4096 ≤ s.fl.length) (hab : okDev a b = true) (hk : keyI a b = (1, 2)) : s.send a b r = ((0, 3), s) := by
  have h2 : (s.link (keyI a b)) = (true, 1) := by rw [hs, hk]; rfl
  unfold NS.send
  rw [hab, h2, if_neg (by decide), if_neg (by decide), if_pos (.inl hl)]
theorem F_find (l : List UInt8) (m : Nat) (hm : 7 ≤ m) : (F l m).find 7 = some 6 := by
  unfold NS.find
  rw [List.findIdx?_eq_some_iff_getElem]
  refine ⟨by rw [F_len]; omega, by simp [F, fullL], fun j hj => by simp [F, fullL]; omega⟩
theorem F_twice (l : List UInt8) (m : Nat) (hm : 4096 ≤ m) : (F l m).twice 7 = ((0, 3), F l m) := by
  unfold NS.twice
  rw [F_find l m (by omega)]
  simp only [F_len, if_pos hm]
/-- Without the seventh. -/
def G (l : List UInt8) (m : Nat) : NS := ⟨U.link, (fullL l m).eraseIdx 6, m⟩
theorem F_take (l : List UInt8) (m : Nat) (h7 : 7 ≤ m) : (F l m).take 7 = ((⟨7, 2, 1, 1, l⟩, 0), G l m) := by
  unfold NS.take
  rw [F_find l m h7]
  have e : (F l m).fl.getD 6 zeroPk = ⟨7, 2, 1, 1, l⟩ := by
    rw [List.getD_eq_getElem?_getD]
    have : (F l m).fl[6]? = some ⟨7, 2, 1, 1, l⟩ := by
      simp only [F, fullL, List.getElem?_map]
      rw [List.getElem?_range (by omega)]
      rfl
    rw [this]
    rfl
  simp only [e]
  rfl
theorem G_len (l : List UInt8) (m : Nat) (hm : 7 ≤ m) : (G l m).fl.length = m - 1 := by
  have h : (fullL l m).length = m := by rw [fullL, List.length_map, List.length_range]
  have e : (G l m).fl = (fullL l m).eraseIdx 6 := rfl
  rw [e, List.length_eraseIdx_of_lt (by rw [h]; omega), h]
theorem G_find (l : List UInt8) (m : Nat) (hm : 8 ≤ m) : (G l m).find 8 = some 6 := by
  unfold NS.find
  rw [List.findIdx?_eq_some_iff_getElem]
  refine ⟨by rw [G_len l m (by omega)]; omega, ?_, fun j hj => ?_⟩
  · simp [G, fullL, List.getElem_eraseIdx]
  · simp [G, fullL, List.getElem_eraseIdx, hj]; omega
def H (l : List UInt8) (m : Nat) : NS := ((G l m).twice 8).2
theorem G_twice (l : List UInt8) (m : Nat) (hm : 8 ≤ m) (hm2 : m ≤ 4096) : (G l m).twice 8 = ((m + 1, 0), H l m) ∧ (H l m).link = U.link ∧ (H l m).fl.length = m ∧ (H l m).last = m + 1 := by
  have h1 : ∃ r : Int × Int × Nat × List UInt8, (G l m).twice 8 = ((m + 1, 0), (G l m).put r.1 r.2.1 r.2.2.1 r.2.2.2) := by
    unfold NS.twice
    rw [G_find l m hm]
    simp only [G_len l m (by omega), if_neg (show ¬ 4096 ≤ m - 1 by omega)]
    exact ⟨(_, _, _, _), rfl⟩
  obtain ⟨r, hr⟩ := h1
  refine ⟨by rw [H, hr], ?_, ?_, ?_⟩
  · rw [H, hr]; rfl
  · rw [H, hr]; simp [NS.put, G_len l m (by omega)]; omega
  · rw [H, hr]; rfl
end Go.Proofs.Ythajlhifgafpkaa
