/-
  Blocks: plain laws of BlockPuts.
-/
import Derived.Test.YtmaehbebpldpcaaBlkS
import Derived.Test.YtmaehbebpldpcaaBlkX
namespace Go.Proofs.Ytmaehbebpldpcaa
open Go.RowKit Go.Shelf
theorem lk_mem {q : Kd} {v : Int × Int} : ∀ {E : List (Kd × (Int × Int))}, lk q E = some v → (q, v) ∈ E
  | [], h => by cases h
  | p :: E, h => by
    by_cases hp : p.1 = q
    · have h2 : lk q (p :: E) = some p.2 := if_pos hp
      rw [h2] at h
      have h3 : p.2 = v := Option.some.inj h
      rw [← hp, ← h3]
      exact List.mem_cons_self
    · have h2 : lk q (p :: E) = lk q E := if_neg hp
      rw [h2] at h
      exact List.mem_cons_of_mem _ (lk_mem h)
theorem entsA_mem {hv : List LX} {m : Nat} {q : Kd} {v : Int × Int} (h : (q, v) ∈ entsA hv m) : ∃ f k : Nat, f < m ∧ k < (gD hv f).v.n ∧ q = (gD (gD hv f).ds k, lenP (gD hv f) k) ∧ v = ((f : Int), (k : Int)) := by
  obtain ⟨f, hf, hx⟩ := List.mem_flatMap.1 h
  obtain ⟨k, hk, he⟩ := List.mem_map.1 hx
  have h1 := congrArg Prod.fst he
  have h2 := congrArg Prod.snd he
  exact ⟨f, k, List.mem_range.1 hf, List.mem_range.1 hk, h1.symm, h2.symm⟩
/-- A source: none, or a block of the same digest and length. -/
theorem src_at (l : LX) (hv : List LX) {k : Nat} (hk : k < l.v.n) : ∃ p, (srcP l hv)[k]? = some p ∧ (p = (-1, 0) ∨ ∃ f k2 : Nat, p = ((f : Int), (k2 : Int)) ∧ f < hv.length ∧ k2 < (gD hv f).v.n ∧ gD (gD hv f).ds k2 = gD l.ds k ∧ lenP (gD hv f) k2 = lenP l k) := by
  obtain ⟨p, hp⟩ : ∃ p, (lk (gD l.ds k, lenP l k) ((List.range hv.length).flatMap fun f => entsOf f (gD hv f))).getD (-1, 0) = p := ⟨_, rfl⟩
  refine ⟨p, by unfold srcP; rw [List.getElem?_map, List.getElem?_range hk, Option.map_some, hp], ?_⟩
  cases h : lk (gD l.ds k, lenP l k) ((List.range hv.length).flatMap fun f => entsOf f (gD hv f)) with
  | none =>
    rw [h] at hp
    exact .inl hp.symm
  | some v =>
    rw [h] at hp
    obtain ⟨f, k2, h1, h2, h3, h4⟩ := entsA_mem (hv := hv) (m := hv.length) (lk_mem h)
    exact .inr ⟨f, k2, hp.symm.trans h4, h1, h2, (congrArg Prod.fst h3).symm, (congrArg Prod.snd h3).symm⟩
theorem want_nil : ∀ (n : Nat) (z : List ((Int × Int) × Dg)), z.length = n → (wantF z = [] ↔ ∀ p ∈ z, p.1.1 ≠ -1)
  | 0, z, h => by
    have : z = [] := List.eq_nil_of_length_eq_zero h
    subst this
    simp [wantF]
  | n + 1, z, h => by
    obtain ⟨y, p, rfl⟩ : ∃ y p, z = y ++ [p] := ⟨z.dropLast, z.getLast (by intro e; subst e; cases h), (List.dropLast_concat_getLast (by intro e; subst e; cases h)).symm⟩
    have h2 := want_nil n y (by simpa using h)
    rw [wantF_snoc]
    constructor
    · intro hw q hq
      split at hw
      · simp at hw
      · rename_i hne
        rcases List.mem_append.1 hq with hq | hq
        · exact h2.1 hw q hq
        · obtain rfl : q = p := by simpa using hq
          intro e
          exact hne ⟨e, by rw [hw]; simp⟩
    · intro hall
      have h3 := h2.2 (fun q hq => hall q (List.mem_append.2 (.inl hq)))
      rw [if_neg (fun hh => hall p (by simp) hh.1)]
      exact h3
theorem join_chunks {L : List UInt8} {Z : Nat} {rs : List BRow} : ∀ {k : Nat}, (∀ i, i < k → ∃ r, rs[i]? = some r ∧ r.2.2.2 = chunkB L Z i) → catB rs k = L.take (k * Z)
  | 0, _ => by simp [catB]
  | k + 1, h => by
    obtain ⟨r, hr, hb⟩ := h k (Nat.lt_succ_self _)
    rw [catB_succ hr, join_chunks (fun i hi => h i (by omega)), hb, Nat.succ_mul, List.take_add]
    rfl
theorem putP_blocks {L : List UInt8} {m Z : Nat} {rs : List BRow} (hl : L.length = m) (hZ : 0 < Z) (hZ2 : Z ≤ 65536) (hm : m ≤ 4194304) (hN : chunkN m Z ≤ 1024) (hn : rs.length = chunkN m Z)
    (hb : ∀ i, i < chunkN m Z → ∃ r, rs[i]? = some r ∧ r.2.2.2 = chunkB L Z i) : putP (Z : Int) (m : Int) (cutL L Z) rs = (0, L) := by
  have hcl : (cutL L Z).length = chunkN m Z := cutL_len hl
  have hf : firstE (fitsL (Z : Int) (m : Int) (cutL L Z) rs) = 0 := by
    refine firstE_zero fun e he => ?_
    obtain ⟨k, hk, rfl⟩ := List.mem_map.1 he
    have hk2 : k < chunkN m Z := by rw [← hn]; exact List.mem_range.1 hk
    obtain ⟨r, hr, hrb⟩ := hb k hk2
    have e2 := gD_some (ls := rs) (k := k) (by rw [hn]; exact hk2)
    rw [hr] at e2
    rw [← Option.some.inj e2, hrb]
    exact fits_cut hl hZ hZ2 hm hN hk2
  have hc : catB rs rs.length = L := by
    rw [hn, join_chunks hb]
    have h1 : ¬ chunkN m Z * Z < m := fun h => absurd ((chunk_lt hZ).2 h) (Nat.lt_irrefl _)
    exact List.take_of_length_le (by rw [hl]; omega)
  unfold putP
  rw [hcl, chk_of hZ hZ2 hm hN, if_neg (by simp), if_neg (by rw [hn]; simp), hf, if_neg (by simp), hc]
end Go.Proofs.Ytmaehbebpldpcaa
