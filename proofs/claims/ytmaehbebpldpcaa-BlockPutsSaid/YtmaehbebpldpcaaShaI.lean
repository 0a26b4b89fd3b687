/-
  Digests: Of.
-/
import Derived.Test.YtmaehbebpldpcaaShaF
import Derived.Test.YtmaehbebpldpcaaShaH
namespace Go.Proofs.Ytmaehbebpldpcaa
open Go.RowKit Go.Shelf
attribute [local go_sem] Oper.semAt_some
section
variable {F : Fence} {n : Nat} {P : Program} {ops : Array Oper} {rest : List Oper} {o : Oper} {a : Act} {w : World} {Q : Exit → Act → World → Prop}
theorem wpListIn_load_row (hgd : o.guard = none) (ty : TypeId) (x : Operand) (ho : o.op = .load ty x)
    (g : Nat) (hx : a.eval x = .pointer (some ⟨g, 0, none⟩)) (t : TypeId) (cs : Array Value) (fr : Nat × Nat) (d : TypeDesc) (hg : w.heap[g]? = some (.cells cs t fr))
    (hu : P.underlying ty = some d) (hd : (match d with | .struct _ | .array _ _ => true | _ => false) = true) (hi : (P.info? ty).map (·.size) = some cs.size)
    (h : wpListIn F n P ops Q rest (a.put o.dst (.agg cs)) w) : wpListIn F n P ops Q (o :: rest) a w := by
  refine wpListIn_plain hgd fun K hK => ?_
  unfold Oper.wpIn
  refine ⟨by simp [Oper.about, ho], ?_⟩
  rw [Oper.semAt_plain F _ _ (by rw [ho]; intro c hc'; cases hc')]
  simp only [execOp, ho, hx, Instr.loadAt, Instr.sureAddr, Sem.run_bind, Sem.run_pure, Result.andThen_ok, run_loadVar_row w g t ty cs fr d hg hu hd hi]
  exact hK _ _ h
theorem wpListIn_store_row (hgd : o.guard = none) (ty : TypeId) (x y : Operand) (ho : o.op = .store ty x y)
    (g : Nat) (cells : Array Value) (hx : a.eval x = .pointer (some ⟨g, 0, none⟩)) (hy : a.eval y = .agg cells)
    (t : TypeId) (old : Array Value) (hg : w.heap[g]? = some (.cells old t (0, 0))) (hi : (P.info? ty).map (·.size) = some cells.size)
    (hold : old.size = cells.size) (h1 : cells.all (·.oneCell') = true)
    (h : wpListIn F n P ops Q rest (a.put o.dst undef) (w.setRow g cells)) : wpListIn F n P ops Q (o :: rest) a w := by
  refine wpListIn_plain hgd fun K hK => ?_
  unfold Oper.wpIn
  refine ⟨by simp [Oper.about, ho], ?_⟩
  rw [Oper.semAt_plain F _ _ (by rw [ho]; intro c hc'; cases hc')]
  simp only [execOp, ho, hx, hy, Instr.storeAt, Instr.sureAddr, Sem.run_bind, Sem.run_pure, Result.andThen_ok, run_storeVar_row w g t ty old cells hg hi hold h1]
  exact hK _ _ h
end
def vals (k : IntKind) (l : List Nat) : Array Value := (l.map fun x : Nat => Value.int k (x : Int)).toArray
/-- A chunk's bytes. -/
def chunkOf (b : List Nat) (k : Nat) : List Nat := (b.drop (k * 64)).take 64
def stAt (b : List Nat) (ks : List Nat) : St := ks.foldl (fun s k => blockP K64 s (chunkOf b k)) st8
theorem chunks_fold (n : Nat) : ∀ (s : St) (b : List Nat), (List.range n).foldl (fun s k => blockP K64 s (chunkOf b k)) s = chunks n s b := by
  induction n with
  | zero => intro s b; rfl
  | succ n ih =>
    intro s b
    rw [List.range_succ_eq_map, List.foldl_cons, List.foldl_map, chunks, ← ih]
    have e : ∀ k, chunkOf b (k + 1) = chunkOf (b.drop 64) k := fun k => by rw [chunkOf, chunkOf, List.drop_drop]; congr 2; omega
    simp only [Nat.succ_eq_add_one, e]
    congr 1
theorem stAt_snoc (b ks : List Nat) (k : Nat) : stAt b (ks ++ [k]) = blockP K64 (stAt b ks) (chunkOf b k) := by simp [stAt]
set_option maxRecDepth 100000 in
theorem K64_fit : ∀ x ∈ K64, x < 4294967296 := by decide +kernel
set_option maxRecDepth 100000 in
theorem st8_fit : st8.fit := by unfold St.fit; decide +kernel
theorem stAt_fit (b : List Nat) (ks : List Nat) : (stAt b ks).fit := by
  rcases List.eq_nil_or_concat ks with rfl | ⟨l, k, rfl⟩
  · exact st8_fit
  · rw [List.concat_eq_append, stAt_snoc]; exact St.add_fit _ _
/-- What the rounds keep: the constants, the words, the result's cells, the bytes. -/
structure OfI (w0 : World) (B gk gs : Nat) (s : St) (ad : Addr) (N : Nat) (L : List UInt8) (W : World) : Prop where
  hk : Arr .u32 78 W gk K64
  hs : Arr .u32 80 W gs s.list
  h0 : Arr .u8 59 W w0.heap.size (List.replicate 32 0)
  hr : BReads W B (some ad) N L
  hb : Below w0.heap.size w0 W
  hz : B ≤ W.heap.size
section
variable {w0 : World} {B gk gs : Nat} {s s' : St} {ad : Addr} {N : Nat} {L : List UInt8} {W W' : World}
theorem OfI.keep (h : OfI w0 B gk gs s ad N L W) (hw : w0.heap.size < B) (hgk : gk < B) (hgs : gs < B) (hk : ∀ b, b < B → W'.heap[b]? = W.heap[b]?) (hb : Below w0.heap.size w0 W') (hz : B ≤ W'.heap.size) : OfI w0 B gk gs s ad N L W' :=
  ⟨h.hk.keep (hk _ hgk), h.hs.keep (hk _ hgs), h.h0.keep (hk _ hw), Reads.keep h.hr fun _ hp => World.cell?_of_block (hk _ hp), hb, hz⟩
theorem OfI.own {N' : Nat} (hw : w0.heap.size < B) (hgk : gk < B) (hgs : gs < B) (f : List (Ix N') → St) : OwnFrom B (fun (pre : List (Ix N')) W => OfI w0 B gk gs (f pre) ad N L W) := by
  intro pre W W' row h hg hr
  refine h.keep hw hgk hgs (fun b hb => hg.block b (Nat.lt_of_lt_of_le hb h.hz) (fun e => ?_)) (h.hb.grown hg (Nat.le_of_lt (Nat.lt_of_lt_of_le hw h.hz)) fun k hk => ?_) (Nat.le_trans h.hz hg.size)
  · have := (hr b e.symm).1; omega
  · have := (hr k hk).1; omega
theorem OfI.step (h : OfI w0 B gk gs s ad N L W) (hw : w0.heap.size < gk) (hgk : gk < gs) (hgs : gs < B) (had : ad.block ≠ gs) (hb : Below W.heap.size W W') (s' : St) :
    OfI w0 B gk gs s' ad N L (W'.setRow gs (s'.list.map fun x : Nat => Value.int .u32 (x : Int)).toArray) := by
  have hz := h.hz
  have hne : ∀ b, b < B → b ≠ gs → (W'.setRow gs (s'.list.map fun x : Nat => Value.int .u32 (x : Int)).toArray).heap[b]? = W.heap[b]? := fun b hb1 hb2 => (setRow_other W' gs b _ hb2).trans (hb.block b (by omega))
  refine ⟨h.hk.keep (hne _ (by omega) (by omega)), setRow_heap W' gs _ _ _ _ (h.hs.below hb), h.h0.keep (hne _ (by omega) (by omega)), ?_, below_setRow (h.hb.trans (hb.mono (by omega))) (by omega) _, by have := hb.size; simp; omega⟩
  refine ⟨h.hr.1, fun hn => ?_⟩
  obtain ⟨ad', e, hb1, hc⟩ := h.hr.2 hn
  injection e with e; subst e
  exact ⟨_, rfl, hb1, fun j u hu => (World.cell?_of_block (hne _ (by rw [block_of_add]; exact hb1) (by rw [block_of_add]; exact had))).trans (hc j u hu)⟩
theorem keeps_step (hs : ∃ cs t fr, W.heap[gs]? = some (.cells cs t fr)) (hb : Below W.heap.size W W') (cs : Array Value) : KeepsOthers W (W'.setRow gs cs) := by
  refine ⟨by have := hb.size; simpa using this, fun k o hk ho => ?_⟩
  have hlt := (Array.getElem?_eq_some_iff.1 hk).1
  by_cases e : k = gs
  · subst e
    obtain ⟨c, t, fr, h⟩ := hs
    rw [hk] at h
    injection h with h
    subst h
    cases ho
  · exact (setRow_other W' gs k cs e).trans ((hb.block k hlt).trans hk)
end
theorem chunk_reads {W : World} {B N k : Nat} {ad : Addr} {L : List UInt8} (h : BReads W B (some ad) N L) (hB : B ≤ W.heap.size) (hk : k * 64 + 64 ≤ N) :
    NReads .u8 W W.heap.size (some (ad.add (k * 64))) 64 (chunkOf (L.map UInt8.toNat) k) := by
  have hl := h.len
  refine ⟨by simp [chunkOf]; omega, fun _ => ?_⟩
  obtain ⟨ad', e, hb, hc⟩ := h.2 (by omega)
  injection e with e; subst e
  refine ⟨_, rfl, by rw [block_of_add]; omega, fun j u hu => ?_⟩
  rw [add_of_add]
  refine hc _ u ?_
  rw [← hu, chunkOf, List.getElem?_map, List.getElem?_map, List.getElem?_take]
  have hj : j < 64 := by
    have := (List.getElem?_eq_some_iff.1 hu).1
    simp [chunkOf] at this
    omega
  rw [if_pos hj, List.getElem?_drop, List.getElem?_map, Option.map_map]
  rfl
theorem chunkOf_lt (L : List UInt8) (k : Nat) : ∀ x ∈ chunkOf (L.map UInt8.toNat) k, x < 256 := by
  intro x hx
  obtain ⟨c, _, rfl⟩ := List.mem_map.1 (List.mem_of_mem_drop (List.mem_of_mem_take hx))
  exact c.toNat_lt
/-- The digest's bytes when k words are laid. -/
def digAt (q : St) (k : Nat) : List Nat := (q.list.flatMap be8).take (4 * k) ++ List.replicate (32 - 4 * k) 0
theorem digAt_step (q : St) (k : Nat) (hk : k < 8) : ∃ x, q.list[k]? = some x ∧ ((((digAt q k).set (4 * k) (x/16777216%256)).set (4 * k + 1) (x/65536%256)).set (4 * k + 2) (x/256%256)).set (4 * k + 3) (x%256) = digAt q (k + 1) := by
  obtain ⟨a, b, c, d, e, f, g, h⟩ := q
  rcases (show k = 0 ∨ k = 1 ∨ k = 2 ∨ k = 3 ∨ k = 4 ∨ k = 5 ∨ k = 6 ∨ k = 7 by omega) with rfl | rfl | rfl | rfl | rfl | rfl | rfl | rfl <;> exact ⟨_, rfl, rfl⟩
theorem digAt_len (q : St) (k : Nat) (hk : k ≤ 8) : (digAt q k).length = 32 := by
  have : (q.list.flatMap be8).length = 32 := rfl
  simp [digAt, this]; omega
theorem digAt_end (q : St) : digAt q 8 = q.list.flatMap be8 := rfl
theorem whole_len (n : Nat) : (n + (padL n).length) % 64 = 0 := by rw [pad_len]; unfold zerosN; omega
end Go.Proofs.Ytmaehbebpldpcaa
