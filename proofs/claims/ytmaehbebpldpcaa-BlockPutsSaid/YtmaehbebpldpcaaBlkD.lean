/-
  Blocks: what both Cuts keep; the iterator over no bytes.
-/
import Derived.Test.YtmaehbebpldpcaaBlkC
import Derived.Test.YtmaehbebpldpcaaTextI
import Derived.Test.YtmaehbebpldpcaaTextE
namespace Go.Proofs.Ytmaehbebpldpcaa
open Go.RowKit Go.Shelf
attribute [local go_sem] Oper.semAt_some
theorem wpIn_region_E {P : Program} {Q : Exit → Act → World → Prop} {n r : Nat} {id : Nat} {ol : List Oper} {a : Act} {w : World} (e : Nat) (l : List (Nat × Nat)) (F G : World → Prop) (hm : P.follows .mixedOrders = true) (hl : l.length = ol.length) (hn : Region.noSelect ol.toArray = true)
    (hs : schedE ol.toArray e (Array.replicate ol.length false) l = true) (hi : (l.all fun x => decide (x.1 < ol.length)) = true) (hd : noDefer ol = true) (hL : ¬ LetsOut Q)
    (h : ∀ d : Oper, TE P ol.toArray Q F G e (outE d ol l) a w.drew) : (Code.region id ol.toArray true).wpIn (Fence.wide.inRound r) n P Q a w := by
  refine wpIn_region_any hm (wpAnyIn_of_wpAny (noDefer_spec hd) hL _ _ _ _ (wpAny_of_E (F := F) (G := G) (e := e) _ _ _ _ ?_))
  have h2 := h { dst := none, op := .move (.tmp 0), type := 0, pos := "", after := #[], guard := none } (Array.replicate ol.length false) hn (by rw [outE_map]; exact hs) (fun x hx => by
    have := outE_mem _ ol l hi x hx
    simpa using this)
  rw [outE_len, hl] at h2
  exact h2
def dgOf (l : List UInt8) : Dg := ⟨sha (l.map UInt8.toNat), rfl⟩
def chunkB (L : List UInt8) (z k : Nat) : List UInt8 := (L.drop (k * z)).take z
def cutL (L : List UInt8) (z : Nat) : List Dg := (List.range (chunkN L.length z)).map fun k => dgOf (chunkB L z k)
/-- The answer of Cut. -/
def cutP (L : List UInt8) (z : Int) : Nat × Int × Int × List Dg :=
  if z < 1 then (2, 0, 0, []) else if 65536 < z then (2, 0, 0, []) else if 4194304 < (L.length : Int) then (3, 0, 0, []) else if 1024 < ((L.length : Int) + z - 1) / z then (3, 0, 0, []) else (0, z, (L.length : Int), cutL L z.toNat)
theorem chunkN_int (n z : Nat) (hz : 0 < z) : ((n : Int) + (z : Int) - 1) / (z : Int) = (chunkN n z : Int) := by
  unfold chunkN
  rw [Int.natCast_ediv, Int.natCast_sub (by omega), Int.natCast_add]
  rfl
/-- What the rounds of Cut keep. -/
structure CutI (w0 : World) (B g4 g6 : Nat) (sz ln : Int) (ds : List Dg) (W : World) : Prop where
  h4 : W.heap[g4]? = some (.cells #[.int .i64 0, .int .i64 0, .slice none 0 0] 24 (0, 0))
  h6 : ∃ A c, W.heap[g6]? = some (.cells #[.int .i64 sz, .int .i64 ln, .slice A ds.length c] 24 (0, 0)) ∧ W.ownsRow B 59 32 (.slice A ds.length c) ds.length (ds.flatMap Dg.cells)
  hb : Below w0.heap.size w0 W
  hz : B ≤ W.heap.size
theorem info_dg : (Try.prog.info? 59).map (fun i => (i.zero, i.size, i.bytes)) = some (some (.agg #[Value.int .u8 0, Value.int .u8 0, Value.int .u8 0, Value.int .u8 0, Value.int .u8 0, Value.int .u8 0, Value.int .u8 0, Value.int .u8 0, Value.int .u8 0, Value.int .u8 0, Value.int .u8 0, Value.int .u8 0, Value.int .u8 0, Value.int .u8 0, Value.int .u8 0, Value.int .u8 0, Value.int .u8 0, Value.int .u8 0, Value.int .u8 0, Value.int .u8 0, Value.int .u8 0, Value.int .u8 0, Value.int .u8 0, Value.int .u8 0, Value.int .u8 0, Value.int .u8 0, Value.int .u8 0, Value.int .u8 0, Value.int .u8 0, Value.int .u8 0, Value.int .u8 0, Value.int .u8 0]), 32, 32) := by kernel_rfl
theorem own_isCells {w : World} {base K n : Nat} {e : TypeId} {v : Value} {xs : List Value} (h : w.ownsRow base e K v n xs) {j : Nat} (hj : v.ownBlock = some j) : ∃ cur fr, w.heap[j]? = some (.cells cur e fr) := by
  rcases h.2 with hn | ⟨g, cap, cur, ev, hg, hh, rest⟩
  · rw [hn.1] at hj; cases hj
  · rw [ev] at hj
    simp [Value.ownBlock] at hj
    subst hj
    exact ⟨_, _, hh⟩
theorem own_keep' {w w' : World} {base K n : Nat} {e : TypeId} {v : Value} {xs : List Value} (h : w.ownsRow base e K v n xs) (hk : ∀ j, v.ownBlock = some j → w'.heap[j]? = w.heap[j]?) : w'.ownsRow base e K v n xs := by
  refine ⟨h.1, ?_⟩
  rcases h.2 with hn | ⟨g, cap, cur, ev, hg, hh, rest⟩
  · exact .inl hn
  · exact .inr ⟨g, cap, cur, ev, hg, (hk g (by rw [ev]; rfl)).trans hh, rest⟩
section
variable {w0 : World} {B g4 g6 : Nat} {sz ln : Int} {ds : List Dg} {W W1 W3 : World}
theorem CutI.own {β : Type} (h4 : g4 < B) (h6 : g6 < B) (h0 : w0.heap.size ≤ B) (f : β → List Dg) : OwnFrom B (fun (pre : β) W => CutI w0 B g4 g6 sz ln (f pre) W) := by
  intro pre W W' row h hg hr
  have hk : ∀ b, b < W.heap.size → (∀ r, row = some r → b ≠ r) → W'.heap[b]? = W.heap[b]? := fun b hb hne => hg.block b hb (fun e => hne b e.symm rfl)
  have hlt : ∀ b, b < B → W'.heap[b]? = W.heap[b]? := fun b hb => hk b (Nat.lt_of_lt_of_le hb h.hz) (fun r e => by have := (hr r e).1; omega)
  obtain ⟨A, c, h61, h62⟩ := h.h6
  refine ⟨(hlt _ h4).trans h.h4, ⟨A, c, (hlt _ h6).trans h61, own_keep' h62 (fun j hj => hk j (h62.lt j hj).2 (fun r e e2 => ?_))⟩, h.hb.grown hg (Nat.le_trans h0 h.hz) (fun k hk => by have := (hr k hk).1; omega), Nat.le_trans h.hz hg.size⟩
  subst e2
  obtain ⟨_, o, ho, hc⟩ := hr _ e
  obtain ⟨cur, fr, hcur⟩ := own_isCells h62 hj
  rw [hcur] at ho
  injection ho with ho
  subst ho
  cases hc
theorem CutI.grow (h : CutI w0 B g4 g6 sz ln ds W) (h0 : w0.heap.size ≤ g4) (h46 : g4 < g6) (h6B : g6 < B) {A A' : Option Addr} {c c' : Nat} (hl : W.heap[g6]? = some (.cells #[.int .i64 sz, .int .i64 ln, .slice A ds.length c] 24 (0, 0))) (ho : W.ownsRow B 59 32 (.slice A ds.length c) ds.length (ds.flatMap Dg.cells))
    (hb : Below W.heap.size W W1) (d : Dg) (ho3 : W3.ownsRow B 59 32 (.slice A' (ds.length + 1) c') (ds.length + 1) (ds.flatMap Dg.cells ++ d.cells)) (hg : W1.grownBy W3 (Value.slice A ds.length c).ownBlock) :
    CutI w0 B g4 g6 sz ln (ds ++ [d]) (W3.setCell ⟨g6, 2, none⟩ (.slice A' (ds.length + 1) c')) ∧ KeepsOthers W (W3.setCell ⟨g6, 2, none⟩ (.slice A' (ds.length + 1) c')) ∧ ∀ b, b < B → b ≠ g6 → (W3.setCell ⟨g6, 2, none⟩ (.slice A' (ds.length + 1) c')).heap[b]? = W.heap[b]? := by
  have hz := h.hz
  have hs1 := hb.size
  have hs3 := hg.size
  have hk3 : ∀ b, b < W.heap.size → (Value.slice A ds.length c).ownBlock ≠ some b → W3.heap[b]? = W.heap[b]? := fun b hb1 hne => (hg.block b (by omega) (fun e => hne e.symm)).trans (hb.block b hb1)
  have hlt : ∀ b, b < B → W3.heap[b]? = W.heap[b]? := fun b hb1 => hk3 b (by omega) (fun e => by have := (ho.lt b e).1; omega)
  have hset : ∀ b, b ≠ g6 → (W3.setCell ⟨g6, 2, none⟩ (.slice A' (ds.length + 1) c')).heap[b]? = W3.heap[b]? := fun b hne => heap_setCell_other W3 ⟨g6, 2, none⟩ b _ hne
  have hg6 : W3.heap[g6]? = some (.cells #[.int .i64 sz, .int .i64 ln, .slice A ds.length c] 24 (0, 0)) := (hlt g6 h6B).trans hl
  refine ⟨⟨(hset g4 (by omega)).trans ((hlt g4 (by omega)).trans h.h4), ⟨A', c', ?_, ?_⟩, ?_, by simpa using Nat.le_trans hz (Nat.le_trans hs1 hs3)⟩, ⟨by simpa using Nat.le_trans hs1 hs3, fun k o hk hoc => ?_⟩, fun b hb1 hne => (hset b hne).trans (hlt b hb1)⟩
  · rw [List.length_append]
    exact heap_setCell_same W3 g6 2 _ _ _ hg6
  · rw [List.length_append, List.flatMap_append]
    have := own_keep' ho3 (w' := W3.setCell ⟨g6, 2, none⟩ (.slice A' (ds.length + 1) c')) (fun j hj => hset j (by have := (ho3.lt j hj).1; omega))
    simpa using this
  · refine Below.setCell ?_ (by show w0.heap.size ≤ g6; omega) _
    exact (h.hb.trans (hb.mono (by have := h.hb.size; omega))).grown hg (by have := h.hb.size; omega) (fun k hk => by have := (ho.lt k hk).1; omega)
  · have hlt2 := (Array.getElem?_eq_some_iff.1 hk).1
    have n6 : k ≠ g6 := fun e => by
      subst e
      rw [hl] at hk
      injection hk with hk
      subst hk
      cases hoc
    have nr : (Value.slice A ds.length c).ownBlock ≠ some k := fun e => by
      obtain ⟨cur, fr, hcur⟩ := own_isCells ho e
      rw [hcur] at hk
      injection hk with hk
      subst hk
      cases hoc
    exact (hset k n6).trans ((hk3 k hlt2 nr).trans hk)
end
set_option maxRecDepth 100000 in
set_option maxHeartbeats 2000000 in
theorem chunk_stops0 (a b : Nat) (ad : Addr) (A : Option Addr) (c z : Nat) (w : World) (m : Nat) (ha : a < w.heap.size) (hca : w.cell? ⟨a, 0, none⟩ = some (.slice A 0 c)) :
    SeqStopsK Fence.wide m Try.prog 45 #[.pointer (some ⟨a, 0, none⟩), .pointer (some ⟨b, 0, none⟩)] (fun x : Ix (chunkN 0 z) => #[chunkV ad 0 z x.1]) (KpB a b)
      (fun xs => xs.map (·.1) = List.range (chunkN 0 z)) (fun _ => True) (chunkN 0 z) w := fun l J Jx W hW hJ hJx hY h0 => by
  have wca : W.cell? ⟨a, 0, none⟩ = some (.slice A 0 c) := (hW.cell (p := ⟨a, 0, none⟩) ha).trans hca
  have hz0 : chunkN 0 z = 0 := by
    unfold chunkN
    rw [Nat.zero_add]
    rcases Nat.eq_zero_or_pos z with rfl | h
    · rfl
    · exact Nat.div_eq_of_lt (by omega)
  clear hca
  refine callsIn_of_wp Try.func45 rfl trivial ?_ rfl
  simp only [Try.ntmps45, List.size_toArray, List.length_cons, List.length_nil, Nat.reduceAdd, Nat.reduceSub, Array.replicate_succ, Array.replicate_zero, List.push_toArray, List.append_toArray, List.nil_append, List.cons_append]
  gi_wp2
  gi_loopw [4] (fun i wr => i = .int .i64 0 ∧ J [] wr ∧ wr.cell? ⟨a, 0, none⟩ = some (.slice A 0 c)) (fun _ _ => 0)
  case atStart => exact ⟨rfl, h0, wca⟩
  case round =>
    obtain ⟨rfl, hJs, ca⟩ := hrel
    gi_wp2
    go_end0
    exact ⟨⟨_, rfl⟩, .inl ⟨[], by rw [hz0]; rfl, hJs⟩⟩
end Go.Proofs.Ytmaehbebpldpcaa
