/-
  Digests: a block.
-/
import Derived.Test.YtmaehbebpldpcaaShaE
import Derived.Test.YtmaehbebpldpcaaTextT
namespace Go.Proofs.Ytmaehbebpldpcaa
open Go.RowKit
theorem wSched_len (b : List Nat) : ∀ n, (wSched b n).length = n
  | 0 => rfl
  | n+1 => by rw [wSched, List.length_append, wSched_len b n]; rfl
theorem wSched_fill (b : List Nat) (k x : Nat) (hk : k < 64) (hx : wNext b (wSched b k) = x) : (wSched b k ++ List.replicate (64 - k) 0).set k x = wSched b (k + 1) ++ List.replicate (64 - (k + 1)) 0 := by
  rw [wSched, hx, show 64 - k = (64 - (k + 1)) + 1 by omega, List.replicate_succ, List.set_append_right _ _ (by rw [wSched_len]; exact Nat.le_refl _), wSched_len]
  simp
theorem wSched_at (b : List Nat) (k j : Nat) (hj : j < k) : (wSched b k ++ List.replicate (64 - k) 0)[j]? = some ((wSched b k).getD j 0) := by
  rw [List.getElem?_append_left (by rw [wSched_len]; exact hj), List.getD_eq_getElem?_getD, List.getElem?_eq_getElem (by rw [wSched_len]; exact hj)]
  rfl
theorem wSched_zero (b : List Nat) (k : Nat) (hk : k < 64) : (wSched b k ++ List.replicate (64 - k) 0)[k]? = some 0 := by
  rw [List.getElem?_append_right (by rw [wSched_len]; exact Nat.le_refl _), wSched_len, List.getElem?_replicate, if_pos (by omega)]
theorem be4_or (x0 x1 x2 x3 : Nat) (b0 : x0 < 256) (b1 : x1 < 256) (b2 : x2 < 256) (b3 : x3 < 256) :
    ∃ y0 y1 y2 z1 z2 z : Nat, IntKind.u32.wrap ((x0 : Int) * 16777216) = (y0 : Int) ∧ IntKind.u32.wrap ((x1 : Int) * 65536) = (y1 : Int) ∧ IntKind.u32.wrap ((x2 : Int) * 256) = (y2 : Int) ∧
      bits .or .u32 (y0 : Int) (y1 : Int) = (z1 : Int) ∧ bits .or .u32 (z1 : Int) (y2 : Int) = (z2 : Int) ∧ bits .or .u32 (z2 : Int) (x3 : Int) = (z : Int) ∧ x0 * 16777216 + x1 * 65536 + x2 * 256 + x3 = z := by
  refine ⟨x0 * 16777216, x1 * 65536, x2 * 256, x0 * 16777216 + x1 * 65536, x0 * 16777216 + x1 * 65536 + x2 * 256, _, ?_, ?_, ?_, ?_, ?_, ?_, rfl⟩
  · rw [IntKind.wrap_u32']; omega
  · rw [IntKind.wrap_u32']; omega
  · rw [IntKind.wrap_u32']; omega
  · rw [u32_or_nat _ _ (by omega) (by omega), nat_join 24 _ _ (by omega) (by omega)]
  · rw [u32_or_nat _ _ (by omega) (by omega), nat_join 16 _ _ (by omega) (by omega)]
  · rw [u32_or_nat _ _ (by omega) (by omega), nat_join 8 _ _ (by omega) (by omega)]
theorem wrap32_of {x : Nat} (h : x < 4294967296) : IntKind.u32.wrap (x : Int) = (x : Int) := by rw [IntKind.wrap_u32']; omega
theorem wNext_lo {l ws : List Nat} {k x0 x1 x2 x3 z : Nat} (hw : ws.length = k) (hk : k < 16) (h0 : l[4 * k]? = some x0) (h1 : l[4 * k + 1]? = some x1) (h2 : l[4 * k + 2]? = some x2) (h3 : l[4 * k + 3]? = some x3)
    (hz : x0 * 16777216 + x1 * 65536 + x2 * 256 + x3 = z) : wNext l ws = z := by
  simp only [wNext, hw, if_pos hk, be4, List.getD_eq_getElem?_getD, h0, h1, h2, h3, Option.getD_some]
  exact hz
/-- What a loop of the block keeps. -/
structure BlkI (w : World) (gk : Nat) (ks s : List Nat) (A : Option Addr) (l : List Nat) (wr : World) (ws : List Nat) : Prop where
  hk : Arr .u32 78 wr gk ks
  hs : Arr .u32 80 wr w.heap.size s
  hres : Arr .u32 80 wr (w.heap.size + 1) (List.replicate 8 0)
  hw : Arr .u32 78 wr (w.heap.size + 1 + 1) ws
  hr : NReads .u8 wr w.heap.size A 64 l
  hb : Below w.heap.size w wr
  hz : w.heap.size + 3 ≤ wr.heap.size
theorem BlkI.start (gk : Nat) (ks : List Nat) (s : St) (A : Option Addr) (l : List Nat) (w : World) (hk : Arr .u32 78 w gk ks) (hr : NReads .u8 w w.heap.size A 64 l) :
    BlkI w gk ks s.list A l (((w.alloc (.cells #[.int .u32 (s.a : Int), .int .u32 (s.b : Int), .int .u32 (s.c : Int), .int .u32 (s.d : Int), .int .u32 (s.e : Int), .int .u32 (s.f : Int), .int .u32 (s.g : Int), .int .u32 (s.h : Int)] 80)).alloc (.cells (List.replicate 8 (Value.int .u32 0)).toArray 80)).alloc (.cells (List.replicate 64 (Value.int .u32 0)).toArray 78)) (wSched l 0 ++ List.replicate (64 - 0) 0) := by
  obtain ⟨w1, hw1⟩ : ∃ w1, w.alloc (.cells #[.int .u32 (s.a : Int), .int .u32 (s.b : Int), .int .u32 (s.c : Int), .int .u32 (s.d : Int), .int .u32 (s.e : Int), .int .u32 (s.f : Int), .int .u32 (s.g : Int), .int .u32 (s.h : Int)] 80) = w1 := ⟨_, rfl⟩
  have z1 : w1.heap.size = w.heap.size + 1 := by rw [← hw1]; simp
  have a1 : Arr .u32 80 w1 w.heap.size s.list := by rw [← hw1]; exact Arr.new w _ _ rfl
  have k1 : Arr .u32 78 w1 gk ks := by rw [← hw1]; exact hk.alloc _
  have r1 : NReads .u8 w1 w.heap.size A 64 l := by rw [← hw1]; exact Reads.alloc hr (Nat.le_refl _) _
  have b1 : Below w.heap.size w w1 := by rw [← hw1]; exact (Below.refl _ _).alloc (Nat.le_refl _) _
  rw [hw1]
  clear hw1
  obtain ⟨w2, hw2⟩ : ∃ w2, w1.alloc (.cells (List.replicate 8 (Value.int .u32 0)).toArray 80) = w2 := ⟨_, rfl⟩
  have z2 : w2.heap.size = w.heap.size + 2 := by rw [← hw2]; simp [z1]
  have a2 : Arr .u32 80 w2 (w.heap.size + 1) (List.replicate 8 0) := by rw [← hw2, ← z1]; exact Arr.new w1 _ _ (by simp)
  have a1 : Arr .u32 80 w2 w.heap.size s.list := by rw [← hw2]; exact a1.alloc _
  have k1 : Arr .u32 78 w2 gk ks := by rw [← hw2]; exact k1.alloc _
  have r1 : NReads .u8 w2 w.heap.size A 64 l := by rw [← hw2]; exact Reads.alloc r1 (by omega) _
  have b1 : Below w.heap.size w w2 := by rw [← hw2]; exact b1.alloc (by omega) _
  rw [hw2]
  clear hw2
  refine ⟨k1.alloc _, a1.alloc _, a2.alloc _, ?_, Reads.alloc r1 (by omega) _, b1.alloc (by omega) _, by simp [z2]⟩
  rw [show w.heap.size + 1 + 1 = w2.heap.size from z2.symm]
  exact Arr.new w2 _ _ (by simp [wSched])
section
variable {w : World} {gk : Nat} {ks s : List Nat} {A : Option Addr} {l : List Nat} {wr w' : World} {ws ws' : List Nat}
theorem BlkI.set_ (h : BlkI w gk ks s A l wr ws) (hg : gk < w.heap.size) (k : Nat) (z : Int) (x : Nat) (hz : z = (x : Int)) (hws : ws.set k x = ws') : BlkI w gk ks s A l (wr.setCell ⟨w.heap.size + 1 + 1, k, none⟩ (.int .u32 z)) ws' :=
  ⟨h.hk.setOther (by simp; omega) _, h.hs.setOther (by simp; omega) _, h.hres.setOther (by simp) _, hws ▸ h.hw.set_ k z x hz, Reads.setCell h.hr (by simp; omega) _, h.hb.setCell (by simp; omega) _, by have := h.hz; simpa [World.setCell] using this⟩
theorem BlkI.below (h : BlkI w gk ks s A l wr ws) (hb : Below wr.heap.size wr w') : BlkI w gk ks s A l w' ws :=
  ⟨h.hk.below hb, h.hs.below hb, h.hres.below hb, h.hw.below hb, Reads.below h.hr (hb.mono (by have := h.hz; omega)), h.hb.trans (hb.mono (by have := h.hz; omega)), Nat.le_trans h.hz hb.size⟩
theorem BlkI.drewN (h : BlkI w gk ks s A l wr ws) (n : Nat) : BlkI w gk ks s A l (wr.drewN n) ws := ⟨h.hk, h.hs, h.hres, h.hw, h.hr, below_drewN h.hb n, h.hz⟩
theorem BlkI.drew (h : BlkI w gk ks s A l wr ws) : BlkI w gk ks s A l wr.drew ws := ⟨h.hk, h.hs, h.hres, h.hw, h.hr, h.hb.drew, h.hz⟩
end
theorem wMix_lt (x y z u : Nat) : wMix x y z u < 4294967296 := Nat.mod_lt _ (by omega)
theorem getD_of {l : List Nat} {j x : Nat} (h : l[j]? = some x) : l.getD j 0 = x := by rw [List.getD_eq_getElem?_getD, h]; rfl
theorem wNext_lt {b ws : List Nat} (hb : ∀ x ∈ b, x < 256) : wNext b ws < 4294967296 := by
  have hg : ∀ j, b.getD j 0 < 256 := fun j => by
    rw [List.getD_eq_getElem?_getD]
    cases h : b[j]? with
    | none => decide
    | some x => exact hb x (List.mem_of_getElem? h)
  rw [wNext]
  split
  · have := hg (4 * ws.length); have := hg (4 * ws.length + 1); have := hg (4 * ws.length + 2); have := hg (4 * ws.length + 3)
    rw [be4]; omega
  · exact wMix_lt _ _ _ _
theorem wSched_lt {b : List Nat} (hb : ∀ x ∈ b, x < 256) : ∀ n, ∀ x ∈ wSched b n, x < 4294967296
  | 0, x, h => by simp [wSched] at h
  | n+1, x, h => by
    rcases List.mem_append.1 h with h | h
    · exact wSched_lt hb n x h
    · rw [List.mem_singleton] at h; subst h; exact wNext_lt hb
/-- The four words that the next one is made of. -/
theorem wSched_four {b : List Nat} (hb : ∀ x ∈ b, x < 256) (k : Nat) (h16 : ¬ k < 16) : ∃ x y z u : Nat, (wSched b k ++ List.replicate (64 - k) 0)[k - 2]? = some x ∧ (wSched b k ++ List.replicate (64 - k) 0)[k - 7]? = some y ∧
    (wSched b k ++ List.replicate (64 - k) 0)[k - 15]? = some z ∧ (wSched b k ++ List.replicate (64 - k) 0)[k - 16]? = some u ∧ x < 4294967296 ∧ y < 4294967296 ∧ z < 4294967296 ∧ u < 4294967296 ∧ wNext b (wSched b k) = wMix x y z u := by
  have hl : ∀ j, j < k → (wSched b k).getD j 0 < 4294967296 := fun j hj => by
    rw [List.getD_eq_getElem?_getD, List.getElem?_eq_getElem (by rw [wSched_len]; exact hj)]
    exact wSched_lt hb k _ (List.getElem_mem _)
  refine ⟨_, _, _, _, wSched_at b k _ (by omega), wSched_at b k _ (by omega), wSched_at b k _ (by omega), wSched_at b k _ (by omega), hl _ (by omega), hl _ (by omega), hl _ (by omega), hl _ (by omega), ?_⟩
  rw [wNext, wSched_len, if_neg h16]
theorem NReads.pair {V : World} {b x y : Nat} (h0 : V.cell? ⟨b, 0, none⟩ = some (.int .i64 (x : Int))) (h1 : V.cell? ⟨b, 1, none⟩ = some (.int .i64 (y : Int))) : NReads .i64 V (b + 1) (some ⟨b, 0, none⟩) 2 [x, y] := by
  refine ⟨rfl, fun _ => ⟨_, rfl, Nat.lt_succ_self _, fun j u hu => ?_⟩⟩
  rcases j with _ | _ | j
  · simp at hu; subst hu; rw [add_zero]; exact h0
  · simp at hu; subst hu; rw [add_pos _ _ (by omega)]; exact h1
  · simp at hu
theorem NReads.three {V : World} {b x y z : Nat} (h0 : V.cell? ⟨b, 0, none⟩ = some (.int .i64 (x : Int))) (h1 : V.cell? ⟨b, 1, none⟩ = some (.int .i64 (y : Int))) (h2 : V.cell? ⟨b, 2, none⟩ = some (.int .i64 (z : Int))) : NReads .i64 V (b + 1) (some ⟨b, 0, none⟩) 3 [x, y, z] := by
  refine ⟨rfl, fun _ => ⟨_, rfl, Nat.lt_succ_self _, fun j u hu => ?_⟩⟩
  rcases j with _ | _ | _ | j
  · simp at hu; subst hu; rw [add_zero]; exact h0
  · simp at hu; subst hu; rw [add_pos _ _ (by omega)]; exact h1
  · simp at hu; subst hu; rw [add_pos _ _ (by omega)]; exact h2
  · simp at hu
theorem BlkI.alloc {w : World} {gk : Nat} {ks s : List Nat} {A : Option Addr} {l : List Nat} {wr : World} {ws : List Nat} (h : BlkI w gk ks s A l wr ws) (o : Obj) : BlkI w gk ks s A l (wr.alloc o) ws := h.below ((Below.refl _ _).alloc (Nat.le_refl _) o)
theorem cell_new (w : World) (cs : Array Value) (t : TypeId) (j : Nat) : (w.alloc (.cells cs t)).cell? ⟨w.heap.size, j, none⟩ = cs[j]? := by
  rw [cell_of_row _ _ j _ t (0, 0) (heap_alloc_new w _)]
theorem cell_old (w : World) (o : Obj) (b j : Nat) (h : b < w.heap.size) : (w.alloc o).cell? ⟨b, j, none⟩ = w.cell? ⟨b, j, none⟩ := World.cell?_alloc_lt w o ⟨b, j, none⟩ h
theorem wmix_parts (x y z u : Nat) (bx : x < 4294967296) (bz : z < 4294967296) :
    ∃ r1 r2 a1 x1 s1 a2 x2 s2 m : Nat, rightL x [17, 19] = r1 ∧ rightL z [7, 18] = r2 ∧ wMix x y z u = m ∧ (x : Int) / 1024 = (a1 : Int) ∧ bits .xor .u32 (r1 : Int) (a1 : Int) = (x1 : Int) ∧ IntKind.u32.wrap ((x1 : Int) + (y : Int)) = (s1 : Int) ∧
      (z : Int) / 8 = (a2 : Int) ∧ bits .xor .u32 (r2 : Int) (a2 : Int) = (x2 : Int) ∧ IntKind.u32.wrap ((s1 : Int) + (x2 : Int)) = (s2 : Int) ∧ IntKind.u32.wrap ((s2 : Int) + (u : Int)) = (m : Int) := by
  have h1 := rightL_lt x [17, 19] bx
  have h2 := rightL_lt z [7, 18] bz
  refine ⟨rightL x [17, 19], rightL z [7, 18], x >>> 10, rightL x [17, 19] ^^^ x >>> 10, ((rightL x [17, 19] ^^^ x >>> 10) + y) % 4294967296, z >>> 3, rightL z [7, 18] ^^^ z >>> 3, (((rightL x [17, 19] ^^^ x >>> 10) + y) % 4294967296 + (rightL z [7, 18] ^^^ z >>> 3)) % 4294967296, wMix x y z u, rfl, rfl, rfl, ?_, ?_, ?_, ?_, ?_, ?_, ?_⟩
  · rw [Nat.shiftRight_eq_div_pow]; omega
  · exact u32_xor_nat _ _ h1 (by rw [Nat.shiftRight_eq_div_pow]; omega)
  · rw [IntKind.wrap_u32']; omega
  · rw [Nat.shiftRight_eq_div_pow]; omega
  · exact u32_xor_nat _ _ h2 (by rw [Nat.shiftRight_eq_div_pow]; omega)
  · rw [IntKind.wrap_u32', ← Int.natCast_add]
    exact (Int.natCast_emod _ 4294967296).symm
  · rw [IntKind.wrap_u32', wMix, ← Int.natCast_add]
    exact (Int.natCast_emod _ 4294967296).symm
theorem xor_all (e : Nat) (he : e < 4294967296) : 4294967295 ^^^ e = 4294967295 - e := by
  have h1 := congrArg BitVec.toNat (BitVec.not_def (x := BitVec.ofNat 32 e))
  rw [BitVec.toNat_not, BitVec.toNat_xor, BitVec.toNat_allOnes, BitVec.toNat_ofNat, Nat.mod_eq_of_lt he] at h1
  exact h1.symm
theorem u32_not_nat (e : Nat) (he : e < 4294967296) : bits .xor .u32 IntKind.u32.max (e : Int) = ((4294967295 - e : Nat) : Int) := by
  have := u32_xor_nat 4294967295 e (by omega) he
  rw [xor_all e he] at this
  exact this
theorem wrap_add (x y : Nat) : IntKind.u32.wrap ((x : Int) + (y : Int)) = (((x + y) % 4294967296 : Nat) : Int) := by
  rw [IntKind.wrap_u32', ← Int.natCast_add]
  exact (Int.natCast_emod _ 4294967296).symm
theorem mod_add (x y : Nat) : ((x : Int) + (y : Int)) % 4294967296 = (((x + y) % 4294967296 : Nat) : Int) := by
  rw [← Int.natCast_add]
  exact (Int.natCast_emod _ 4294967296).symm
theorem and_lt {a b : Nat} (ha : a < 4294967296) : a &&& b < 4294967296 := Nat.lt_of_le_of_lt Nat.and_le_left ha
theorem one_parts (e f g h k w : Nat) (be : e < 4294967296) (bf : f < 4294967296) (bg : g < 4294967296) :
    ∃ r t1 a2 n1 a3 x1 t2 t3 m : Nat, rightL e [6, 11, 25] = r ∧ oneOf e f g h k w = m ∧ IntKind.u32.wrap ((h : Int) + (r : Int)) = (t1 : Int) ∧ bits .and .u32 (e : Int) (f : Int) = (a2 : Int) ∧ bits .xor .u32 IntKind.u32.max (e : Int) = (n1 : Int) ∧
      bits .and .u32 (n1 : Int) (g : Int) = (a3 : Int) ∧ bits .xor .u32 (a2 : Int) (a3 : Int) = (x1 : Int) ∧ IntKind.u32.wrap ((t1 : Int) + (x1 : Int)) = (t2 : Int) ∧ IntKind.u32.wrap ((t2 : Int) + (k : Int)) = (t3 : Int) ∧ IntKind.u32.wrap ((t3 : Int) + (w : Int)) = (m : Int) ∧ m < 4294967296 :=
  ⟨rightL e [6, 11, 25], (h + rightL e [6, 11, 25]) % 4294967296, e &&& f, 4294967295 - e, (4294967295 - e) &&& g, (e &&& f) ^^^ ((4294967295 - e) &&& g),
    ((h + rightL e [6, 11, 25]) % 4294967296 + ((e &&& f) ^^^ ((4294967295 - e) &&& g))) % 4294967296, (((h + rightL e [6, 11, 25]) % 4294967296 + ((e &&& f) ^^^ ((4294967295 - e) &&& g))) % 4294967296 + k) % 4294967296, oneOf e f g h k w,
    rfl, rfl, wrap_add _ _, u32_and_nat _ _ be bf, u32_not_nat e be, u32_and_nat _ _ (by omega) bg, u32_xor_nat _ _ (and_lt be) (and_lt (by omega)), wrap_add _ _, wrap_add _ _, wrap_add _ _, Nat.mod_lt _ (by omega)⟩
theorem two_parts (a b c : Nat) (ba : a < 4294967296) (bb : b < 4294967296) (bc : c < 4294967296) :
    ∃ r a1 a2 x1 a3 x2 m : Nat, rightL a [2, 13, 22] = r ∧ twoOf a b c = m ∧ bits .and .u32 (a : Int) (b : Int) = (a1 : Int) ∧ bits .and .u32 (a : Int) (c : Int) = (a2 : Int) ∧ bits .xor .u32 (a1 : Int) (a2 : Int) = (x1 : Int) ∧
      bits .and .u32 (b : Int) (c : Int) = (a3 : Int) ∧ bits .xor .u32 (x1 : Int) (a3 : Int) = (x2 : Int) ∧ IntKind.u32.wrap ((r : Int) + (x2 : Int)) = (m : Int) ∧ m < 4294967296 :=
  ⟨rightL a [2, 13, 22], a &&& b, a &&& c, (a &&& b) ^^^ (a &&& c), b &&& c, (a &&& b) ^^^ (a &&& c) ^^^ (b &&& c), twoOf a b c, rfl, rfl, u32_and_nat _ _ ba bb, u32_and_nat _ _ ba bc, u32_xor_nat _ _ (and_lt ba) (and_lt ba), u32_and_nat _ _ bb bc,
    u32_xor_nat _ _ (Nat.xor_lt_two_pow (n := 32) (and_lt ba) (and_lt ba)) (and_lt bb), wrap_add _ _, Nat.mod_lt _ (by omega)⟩
def St.fit (s : St) : Prop := ∀ x ∈ s.list, x < 4294967296
theorem St.fit_mk {a b c d e f g h : Nat} (h1 : a < 4294967296) (h2 : b < 4294967296) (h3 : c < 4294967296) (h4 : d < 4294967296) (h5 : e < 4294967296) (h6 : f < 4294967296) (h7 : g < 4294967296) (h8 : h < 4294967296) : (St.mk a b c d e f g h).fit := by
  intro x hx
  simp only [St.list, List.mem_cons, List.not_mem_nil, or_false] at hx
  rcases hx with rfl | rfl | rfl | rfl | rfl | rfl | rfl | rfl <;> assumption
theorem St.fit_all {s : St} (h : s.fit) : s.a < 4294967296 ∧ s.b < 4294967296 ∧ s.c < 4294967296 ∧ s.d < 4294967296 ∧ s.e < 4294967296 ∧ s.f < 4294967296 ∧ s.g < 4294967296 ∧ s.h < 4294967296 :=
  ⟨h _ (by simp [St.list]), h _ (by simp [St.list]), h _ (by simp [St.list]), h _ (by simp [St.list]), h _ (by simp [St.list]), h _ (by simp [St.list]), h _ (by simp [St.list]), h _ (by simp [St.list])⟩
theorem St.rnd_fit {s : St} (h : s.fit) (k w : Nat) : (s.rnd k w).fit := by
  obtain ⟨h1, h2, h3, h4, h5, h6, h7, h8⟩ := St.fit_all h
  exact St.fit_mk (Nat.mod_lt _ (by omega)) h1 h2 h3 (Nat.mod_lt _ (by omega)) h5 h6 h7
theorem rnds_fit {s : St} (h : s.fit) (ks ws : List Nat) : ∀ n, (rnds ks ws s n).fit
  | 0 => h
  | n+1 => St.rnd_fit (rnds_fit h ks ws n) _ _
theorem St.add_fit (s t : St) : (s.add t).fit :=
  St.fit_mk (Nat.mod_lt _ (by omega)) (Nat.mod_lt _ (by omega)) (Nat.mod_lt _ (by omega)) (Nat.mod_lt _ (by omega)) (Nat.mod_lt _ (by omega)) (Nat.mod_lt _ (by omega)) (Nat.mod_lt _ (by omega)) (Nat.mod_lt _ (by omega))
/-- The second loop keeps besides the words in turn. -/
structure BlkJ (w : World) (gk : Nat) (ks s : List Nat) (A : Option Addr) (l : List Nat) (gv : Nat) (wr : World) (ws v : List Nat) : Prop where
  i : BlkI w gk ks s A l wr ws
  hv : Arr .u32 80 wr gv v
  hg : w.heap.size + 1 + 1 < gv
section
variable {w : World} {gk : Nat} {ks s : List Nat} {A : Option Addr} {l : List Nat} {gv : Nat} {wr : World} {ws v : List Nat}
theorem BlkJ.alloc (h : BlkJ w gk ks s A l gv wr ws v) (o : Obj) : BlkJ w gk ks s A l gv (wr.alloc o) ws v := ⟨h.i.alloc o, h.hv.alloc o, h.hg⟩
theorem BlkJ.drewN (h : BlkJ w gk ks s A l gv wr ws v) (n : Nat) : BlkJ w gk ks s A l gv (wr.drewN n) ws v := ⟨h.i.drewN n, h.hv, h.hg⟩
theorem BlkJ.drew (h : BlkJ w gk ks s A l gv wr ws v) : BlkJ w gk ks s A l gv wr.drew ws v := ⟨h.i.drew, h.hv, h.hg⟩
theorem BlkJ.row (h : BlkJ w gk ks s A l gv wr ws v) (hg : gk < w.heap.size) (v' : List Nat) : BlkJ w gk ks s A l gv (wr.setRow gv (v'.map fun x : Nat => Value.int .u32 (x : Int)).toArray) ws v' := by
  have hgv := h.hg
  have hne : ∀ j, j ≠ gv → (wr.setRow gv (v'.map fun x : Nat => Value.int .u32 (x : Int)).toArray).heap[j]? = wr.heap[j]? := fun j hj => setRow_other wr gv j _ hj
  refine ⟨⟨h.i.hk.keep (hne _ (by omega)), h.i.hs.keep (hne _ (by omega)), h.i.hres.keep (hne _ (by omega)), h.i.hw.keep (hne _ (by omega)), h.i.hr.keep fun p hp => World.cell?_of_block (hne _ (by omega)), below_setRow h.i.hb (by omega) _, by have := h.i.hz; simpa using this⟩, setRow_heap wr gv _ _ _ _ h.hv, h.hg⟩
end
theorem BlkJ.setS {w : World} {gk : Nat} {ks s s' : List Nat} {A : Option Addr} {l : List Nat} {gv : Nat} {wr : World} {ws v : List Nat} (h : BlkJ w gk ks s A l gv wr ws v) (hg : gk < w.heap.size) (k : Nat) (z : Int) (x : Nat) (hz : z = (x : Int)) (hs : s.set k x = s') :
    BlkJ w gk ks s' A l gv (wr.setCell ⟨w.heap.size, k, none⟩ (.int .u32 z)) ws v := by
  have hgv := h.hg
  exact ⟨⟨h.i.hk.setOther (by simp; omega) _, hs ▸ h.i.hs.set_ k z x hz, h.i.hres.setOther (by simp) _, h.i.hw.setOther (by simp; omega) _, Reads.setCell h.i.hr (Nat.le_refl _) _, h.i.hb.setCell (Nat.le_refl _) _, by have := h.i.hz; simpa [World.setCell] using this⟩, h.hv.setOther (by simp; omega) _, h.hg⟩
theorem add_at (s v : St) (k : Nat) (hk : k < 8) : ∃ x y : Nat, s.list[k]? = some x ∧ v.list[k]? = some y ∧ (s.add v).list[k]? = some ((x + y) % 4294967296) := by
  rcases (show k = 0 ∨ k = 1 ∨ k = 2 ∨ k = 3 ∨ k = 4 ∨ k = 5 ∨ k = 6 ∨ k = 7 by omega) with rfl | rfl | rfl | rfl | rfl | rfl | rfl | rfl <;> exact ⟨_, _, rfl, rfl, rfl⟩
theorem mid_at {l r : List Nat} {k x : Nat} (hl : l.length = r.length) (h : r[k]? = some x) : (l.take k ++ r.drop k)[k]? = some x := by
  have hk := (List.getElem?_eq_some_iff.1 h).1
  rw [List.getElem?_append_right (by rw [List.length_take]; omega), List.length_take, hl, Nat.min_eq_left (Nat.le_of_lt hk), Nat.sub_self, List.getElem?_drop, Nat.add_zero]
  exact h
theorem mid_set {l r : List Nat} {k x : Nat} (hl : l.length = r.length) (h : l[k]? = some x) : (l.take k ++ r.drop k).set k x = l.take (k + 1) ++ r.drop (k + 1) := by
  obtain ⟨hk, he⟩ := List.getElem?_eq_some_iff.1 h
  rw [List.set_append_right _ _ (by rw [List.length_take]; omega), List.length_take, Nat.min_eq_left (Nat.le_of_lt hk), Nat.sub_self, List.take_succ_eq_append_getElem hk, he, List.drop_eq_getElem_cons (by omega), List.set_cons_zero]
  simp
set_option maxRecDepth 100000 in
set_option maxHeartbeats 20000000 in
theorem block_v (gk : Nat) (ks : List Nat) (s : St) (A : Option Addr) (c : Nat) (l : List Nat) (w : World) (hk : Arr .u32 78 w gk ks) (hkl : ks.length = 64) (hkb : ∀ x ∈ ks, x < 4294967296)
    (hsb : ∀ x ∈ s.list, x < 4294967296) (hr : NReads .u8 w w.heap.size A 64 l) (hl : ∀ x ∈ l, x < 256) :
    Calls Try.prog 49 #[.pointer (some ⟨gk, 0, none⟩), .agg #[.int .u32 (s.a : Int), .int .u32 (s.b : Int), .int .u32 (s.c : Int), .int .u32 (s.d : Int), .int .u32 (s.e : Int), .int .u32 (s.f : Int), .int .u32 (s.g : Int), .int .u32 (s.h : Int)], .slice A 64 c] w
      fun e w' => e = .returned (.agg ((blockP ks s l).list.map fun x : Nat => Value.int .u32 (x : Int)).toArray) ∧ Below w.heap.size w w' := by
  have HKB := Lib.hid hkb
  have HKL := Lib.hid hkl
  have HSB := Lib.hid hsb
  have HLB := Lib.hid hl
  have HR := Lib.hid hr
  have HK := Lib.hid hk
  clear hkb hkl hsb hl hr hk
  go_enter Try.func49, Try.ntmps49
  go_wp2
  have I0 := Lib.hid (BlkI.start gk ks s A l w HK.out HR.out)
  go_loopw [18] (fun i wr => ∃ k : Nat, k ≤ 64 ∧ i = .int .i64 (k : Int) ∧ BlkI w gk ks s.list A l wr (wSched l k ++ List.replicate (64 - k) 0)) (fun i _ => 64 - (intOf i).toNat)
  case atStart => exact ⟨0, Nat.zero_le _, rfl, I0.out⟩
  case round =>
    clear I0
    obtain ⟨k, hk, rfl, hI⟩ := hrel
    have I := Lib.hid hI
    clear hI
    by_cases hlt : k < 64
    · by_cases h16 : k < 16
      · have d1 := dec_lt hlt
        obtain ⟨ad, x0, rfl, had, c0, X0, _, m0⟩ := NReads.at2 I.out.hr (show 4 * k < 64 by omega)
        obtain ⟨_, x1, he, _, c1, X1, _, m1⟩ := NReads.at2 I.out.hr (show 4 * k + 1 < 64 by omega)
        injection he with he; subst he
        obtain ⟨_, x2, he, _, c2, X2, _, m2⟩ := NReads.at2 I.out.hr (show 4 * k + 2 < 64 by omega)
        injection he with he; subst he
        obtain ⟨_, x3, he, _, c3, X3, _, m3⟩ := NReads.at2 I.out.hr (show 4 * k + 3 < 64 by omega)
        injection he with he; subst he
        have b0 := HLB.out _ m0
        have b1 := HLB.out _ m1
        have b2 := HLB.out _ m2
        have b3 := HLB.out _ m3
        have cw := Arr.cell I.out.hw (wSched_zero l k hlt)
        have fw := Arr.frozen I.out.hw k
        have e0 : IntKind.i64.wrap (4 * (k : Int)) = 4 * (k : Int) := IntWalk.i64_in _ (by omega)
        have e1 : IntKind.i64.wrap (4 * (k : Int) + 1) = 4 * (k : Int) + 1 := IntWalk.i64_in _ (by omega)
        have e2 : IntKind.i64.wrap (4 * (k : Int) + 2) = 4 * (k : Int) + 2 := IntWalk.i64_in _ (by omega)
        have e3 : IntKind.i64.wrap (4 * (k : Int) + 3) = 4 * (k : Int) + 3 := IntWalk.i64_in _ (by omega)
        have t0 : (4 * (k : Int)).toNat = 4 * k := by omega
        have t1 : (4 * (k : Int) + 1).toNat = 4 * k + 1 := by omega
        have t2 : (4 * (k : Int) + 2).toNat = 4 * k + 2 := by omega
        have t3 : (4 * (k : Int) + 3).toNat = 4 * k + 3 := by omega
        have p0 : (0 : Int) ≤ 4 * (k : Int) ∧ 4 * (k : Int) < 64 := by omega
        have p1 : (0 : Int) ≤ 4 * (k : Int) + 1 ∧ 4 * (k : Int) + 1 < 64 := by omega
        have p2 : (0 : Int) ≤ 4 * (k : Int) + 2 ∧ 4 * (k : Int) + 2 < 64 := by omega
        have p3 : (0 : Int) ≤ 4 * (k : Int) + 3 ∧ 4 * (k : Int) + 3 < 64 := by omega
        obtain ⟨p0, q0⟩ := p0
        obtain ⟨p1, q1⟩ := p1
        obtain ⟨p2, q2⟩ := p2
        obtain ⟨p3, q3⟩ := p3
        obtain ⟨y0, y1, y2, z1, z2, z, r0, r1, r2, r3, r4, r5, hz⟩ := be4_or x0 x1 x2 x3 b0 b1 b2 b3
        have s0 := wrap32_of (show x0 < 4294967296 by omega)
        have s1 := wrap32_of (show x1 < 4294967296 by omega)
        have s2 := wrap32_of (show x2 < 4294967296 by omega)
        have s3 := wrap32_of (show x3 < 4294967296 by omega)
        rw [add_pos _ _ (by omega)] at c1 c2 c3
        have HW := Lib.hid (wSched_fill l k z hlt (wNext_lo (wSched_len l k) h16 X0.out X1.out X2.out X3.out hz))
        clear hz m0 m1 m2 m3 b0 b1 b2 b3 hk
        go_wp2
        go_still_tail 35, (by kernel_rfl)
        go_wp2
        go_roundw
        case rel =>
          exact ⟨k + 1, hlt, by go_num, (I.out.set_ HK.out.lt k z z rfl HW.out).drew⟩
        case measure => simp [intOf]; omega
      · have d1 := dec_lt hlt
        have d2 := dec_nlt h16
        obtain ⟨x, y, z, u, X, Y, Z, U, bx, by_, bz, bu, hN⟩ := wSched_four HLB.out k h16
        have HW := Lib.hid (wSched_fill l k _ hlt hN)
        have cx := Arr.cell I.out.hw X
        have cz := Arr.cell I.out.hw Z
        have CY := Lib.hid (Arr.cell I.out.hw Y)
        have CU := Lib.hid (Arr.cell I.out.hw U)
        have CW := Lib.hid (Arr.cell I.out.hw (wSched_zero l k hlt))
        have p1 : (0 : Int) ≤ (k : Int) - 2 := by omega
        have q1 : (k : Int) - 2 < 64 := by omega
        have t1 : ((k : Int) - 2).toNat = k - 2 := by omega
        have p2 : (0 : Int) ≤ (k : Int) - 15 := by omega
        have q2 : (k : Int) - 15 < 64 := by omega
        have t2 : ((k : Int) - 15).toNat = k - 15 := by omega
        have p3 : (2 : Int) ≤ (k : Int) := by omega
        have p4 : (15 : Int) ≤ (k : Int) := by omega
        have e1 : IntKind.i64.wrap ((k : Int) - 2) = (k : Int) - 2 := IntWalk.i64_in _ (by omega)
        have e2 : IntKind.i64.wrap ((k : Int) - 15) = (k : Int) - 15 := IntWalk.i64_in _ (by omega)
        clear X Y Z U hN hk
        obtain ⟨r1, r2, a1, x1, s1, a2, x2, s2, m, hr1, hr2, hm, f1, f2, f3, f4, f5, f6, f7⟩ := wmix_parts x y z u bx bz
        rw [hm] at HW
        have RV1 : ∀ (V : World) (b : Nat), V.cell? ⟨b, 0, none⟩ = some (.int .i64 17) → V.cell? ⟨b, 1, none⟩ = some (.int .i64 19) → Calls Try.prog 63 #[.int .u32 (x : Int), .slice (some ⟨b, 0, none⟩) 2 2] V fun e w' => e = .returned (.int .u32 (r1 : Int)) ∧ V = w' := fun V b g0 g1 =>
          hr1 ▸ right_v x _ _ 2 2 [17, 19] _ (NReads.pair g0 g1) bx (by decide) (by omega)
        have RV2 : ∀ (V : World) (b : Nat), V.cell? ⟨b, 0, none⟩ = some (.int .i64 7) → V.cell? ⟨b, 1, none⟩ = some (.int .i64 18) → Calls Try.prog 63 #[.int .u32 (z : Int), .slice (some ⟨b, 0, none⟩) 2 2] V fun e w' => e = .returned (.int .u32 (r2 : Int)) ∧ V = w' := fun V b g0 g1 =>
          hr2 ▸ right_v z _ _ 2 2 [7, 18] _ (NReads.pair g0 g1) bz (by decide) (by omega)
        have RA := Lib.hid RV1
        have RB := Lib.hid RV2
        clear RV1 RV2 hr1 hr2 hm
        go_wp2
        go_quiet (fail)
        have I2 := Lib.hid (I.out.drewN nq)
        have CY2 : Hid ((wr.drewN nq).cell? ⟨w.heap.size + 1 + 1, k - 7, none⟩ = some (.int .u32 (y : Int))) := Lib.hid CY.out
        have CU2 : Hid ((wr.drewN nq).cell? ⟨w.heap.size + 1 + 1, k - 16, none⟩ = some (.int .u32 (u : Int))) := Lib.hid CU.out
        have CW2 : Hid ((wr.drewN nq).cell? ⟨w.heap.size + 1 + 1, k, none⟩ = some (.int .u32 ((0 : Nat) : Int))) := Lib.hid CW.out
        clear I cx cz
        generalize wr.drewN nq = W at *
        clear p1 q1 t1 p2 q2 t2 p3 p4 e1 e2
        have p1 : (0 : Int) ≤ (k : Int) - 7 := by omega
        have q1 : (k : Int) - 7 < 64 := by omega
        have t1 : ((k : Int) - 7).toNat = k - 7 := by omega
        have p2 : (0 : Int) ≤ (k : Int) - 16 := by omega
        have q2 : (k : Int) - 16 < 64 := by omega
        have t2 : ((k : Int) - 16).toNat = k - 16 := by omega
        have p3 : (7 : Int) ≤ (k : Int) := by omega
        have p4 : (16 : Int) ≤ (k : Int) := by omega
        have e1 : IntKind.i64.wrap ((k : Int) - 7) = (k : Int) - 7 := IntWalk.i64_in _ (by omega)
        have e2 : IntKind.i64.wrap ((k : Int) - 16) = (k : Int) - 16 := IntWalk.i64_in _ (by omega)
        go_wp2_with fail
        have cy : W.cell? ⟨w.heap.size + 1 + 1, k - 7, none⟩ = some (.int .u32 (y : Int)) := CY2.out
        have cu : W.cell? ⟨w.heap.size + 1 + 1, k - 16, none⟩ = some (.int .u32 (u : Int)) := CU2.out
        have cw : W.cell? ⟨w.heap.size + 1 + 1, k, none⟩ = some (.int .u32 ((0 : Nat) : Int)) := CW2.out
        have fw := Arr.frozen I2.out.hw k
        have SZ : w.heap.size + 1 + 1 < W.heap.size := I2.out.hw.lt
        clear CY CU CW CY2 CU2 CW2
        refine wp_region_tree (SK.one 0 false <| .one 1 false <| .one 4 false <| .one 5 false <| .one 7 false <| .one 8 false <| .one 9 false <| .one 10 false <| .one 12 false <| .one 15 false <| .one 16 false <| .one 19 false <| .one 20 false <| .one 21 false <| .one 22 false <| .two 2 (.two 3 (.one 6 false <| .one 11 false <| .one 13 true <| .one 14 true <| .one 17 false <| .one 18 false <| .one 23 false <| .one 24 false <| .one 25 true .done) 13 (.one 3 true <| .one 6 false <| .one 11 false <| .one 14 true <| .one 17 false <| .one 18 false <| .one 23 false <| .one 24 false <| .one 25 true .done)) 13 (.one 2 true <| .one 3 true <| .one 6 false <| .one 11 false <| .one 14 true <| .one 17 false <| .one 18 false <| .one 23 false <| .one 24 false <| .one 25 true .done)) (fun V => V.cell? ⟨w.heap.size + 1 + 1, k - 7, none⟩ = some (.int .u32 (y : Int)) ∧ V.cell? ⟨w.heap.size + 1 + 1, k - 16, none⟩ = some (.int .u32 (u : Int))) (by kernel_rfl) (by kernel_rfl) (by kernel_rfl) (by kernel_rfl) ?_
        have hS : W.drew.cell? ⟨w.heap.size + 1 + 1, k - 7, none⟩ = some (.int .u32 (y : Int)) ∧ W.drew.cell? ⟨w.heap.size + 1 + 1, k - 16, none⟩ = some (.int .u32 (u : Int)) := ⟨cy, cu⟩
        have I3 := Lib.hid I2.out.drew
        have cw0 : W.drew.cell? ⟨w.heap.size + 1 + 1, k, none⟩ = some (.int .u32 ((0 : Nat) : Int)) := cw
        have fw0 : W.drew.frozen? ⟨w.heap.size + 1 + 1, k, none⟩ = false := fw
        have SZ0 : w.heap.size + 1 + 1 < W.drew.heap.size := SZ
        clear I2 cy cu cw fw SZ
        generalize W.drew = V0 at *
        ((first | (refine TR.val2 (v := ?_) _ (by simp only [List.getElem?_toArray, List.getElem?_cons_zero]; rfl) ?_ ?_ ?_ ?_ ?_; rotate_left; (focus rfl); (focus (intro W hSW; (try dsimp only at hSW); (try (obtain ⟨hS1, hSW⟩ := hSW)); (try (obtain ⟨hS2, hSW⟩ := hSW)); (try (obtain ⟨hS3, hSW⟩ := hSW)); (try (obtain ⟨hS4, hSW⟩ := hSW)); (try (obtain ⟨hS5, hSW⟩ := hSW)); go_simp; (try with_reducible rfl); done)); (focus exact fun _ _ _ h => h); (focus assumption)) | (refine TR.skip _ (by simp only [List.getElem?_toArray, List.getElem?_cons_zero]; rfl) ?_ ?_ ?_ ?_; (focus rfl); (focus exact fun _ _ _ h => h); (focus assumption))); simp only [Act.put, List.setIfInBounds_toArray, List.set_cons_zero, List.set_cons_succ])
        iterate 14 ((first | (refine TR.val2 (v := ?_) _ (by simp only [List.getElem?_toArray, List.getElem?_cons_succ, List.getElem?_cons_zero]; rfl) ?_ ?_ ?_ ?_ ?_; rotate_left; (focus rfl); (focus (intro W hSW; (try dsimp only at hSW); (try (obtain ⟨hS1, hSW⟩ := hSW)); (try (obtain ⟨hS2, hSW⟩ := hSW)); (try (obtain ⟨hS3, hSW⟩ := hSW)); (try (obtain ⟨hS4, hSW⟩ := hSW)); (try (obtain ⟨hS5, hSW⟩ := hSW)); go_simp; (try with_reducible rfl); done)); (focus exact fun _ _ _ h => h); (focus assumption)) | (refine TR.skip _ (by simp only [List.getElem?_toArray, List.getElem?_cons_succ, List.getElem?_cons_zero]; rfl) ?_ ?_ ?_ ?_; (focus rfl); (focus exact fun _ _ _ h => h); (focus assumption))); simp only [Act.put, List.setIfInBounds_toArray, List.set_cons_zero, List.set_cons_succ])
        refine TR.two _ _ (by simp only [List.getElem?_toArray, List.getElem?_cons_succ, List.getElem?_cons_zero]; rfl) (by simp only [List.getElem?_toArray, List.getElem?_cons_succ, List.getElem?_cons_zero]; rfl) (by rfl) (by rfl) (fun K hK => ?_) (fun K hK => ?_)
        · go_simp
          have hS : (V0.alloc (.cells #[.int .i64 17, .int .i64 19] 3)).cell? ⟨w.heap.size + 1 + 1, k - 7, none⟩ = some (.int .u32 (y : Int)) ∧ (V0.alloc (.cells #[.int .i64 17, .int .i64 19] 3)).cell? ⟨w.heap.size + 1 + 1, k - 16, none⟩ = some (.int .u32 (u : Int)) := ⟨(cell_old _ _ _ _ SZ0).trans hS.1, (cell_old _ _ _ _ SZ0).trans hS.2⟩
          refine hK.out _ _ hS ?_
          clear hK
          (try simp only [Act.put, List.setIfInBounds_toArray, List.set_cons_zero, List.set_cons_succ])
          have I4 := Lib.hid (I3.out.alloc (.cells #[.int .i64 17, .int .i64 19] 3))
          have g20 := cell_new V0 #[.int .i64 17, .int .i64 19] 3 0
          have g21 := cell_new V0 #[.int .i64 17, .int .i64 19] 3 1
          have hz2 : V0.heap.size < (V0.alloc (.cells #[.int .i64 17, .int .i64 19] 3)).heap.size := by simp
          have cw1 := (cell_old V0 (.cells #[.int .i64 17, .int .i64 19] 3) _ _ SZ0).trans cw0
          have fw1 := Arr.frozen I4.out.hw k
          have SZ1 : w.heap.size + 1 + 1 < (V0.alloc (.cells #[.int .i64 17, .int .i64 19] 3)).heap.size := by simp; omega
          clear cw0 fw0 I3
          generalize V0.alloc (.cells #[.int .i64 17, .int .i64 19] 3) = V1 at *
          refine TR.two _ _ (by simp only [List.getElem?_toArray, List.getElem?_cons_succ, List.getElem?_cons_zero]; rfl) (by simp only [List.getElem?_toArray, List.getElem?_cons_succ, List.getElem?_cons_zero]; rfl) (by rfl) (by rfl) (fun K hK => ?_) (fun K hK => ?_)
          · go_simp
            refine (RA.out _ _ g20 g21).mono ?_
            rintro e w' ⟨rfl, rfl⟩
            go_wp2_with fail; refine hK.out _ _ hS ?_; clear hK; (try simp only [Act.put, List.setIfInBounds_toArray, List.set_cons_zero, List.set_cons_succ])
            iterate 2 ((first | (refine TR.val2 (v := ?_) _ (by simp only [List.getElem?_toArray, List.getElem?_cons_succ, List.getElem?_cons_zero]; rfl) ?_ ?_ ?_ ?_ ?_; rotate_left; (focus rfl); (focus (intro W hSW; (try dsimp only at hSW); (try (obtain ⟨hS1, hSW⟩ := hSW)); (try (obtain ⟨hS2, hSW⟩ := hSW)); (try (obtain ⟨hS3, hSW⟩ := hSW)); (try (obtain ⟨hS4, hSW⟩ := hSW)); (try (obtain ⟨hS5, hSW⟩ := hSW)); go_simp; (try with_reducible rfl); done)); (focus exact fun _ _ _ h => h); (focus assumption)) | (refine TR.skip _ (by simp only [List.getElem?_toArray, List.getElem?_cons_succ, List.getElem?_cons_zero]; rfl) ?_ ?_ ?_ ?_; (focus rfl); (focus exact fun _ _ _ h => h); (focus assumption))); simp only [Act.put, List.setIfInBounds_toArray, List.set_cons_zero, List.set_cons_succ])
            refine TR.eff _ (by simp only [List.getElem?_toArray, List.getElem?_cons_succ, List.getElem?_cons_zero]; rfl) (by rfl) (fun K hK => ?_); go_simp
            have hS : (V1.alloc (.cells #[.int .i64 7, .int .i64 18] 3)).cell? ⟨w.heap.size + 1 + 1, k - 7, none⟩ = some (.int .u32 (y : Int)) ∧ (V1.alloc (.cells #[.int .i64 7, .int .i64 18] 3)).cell? ⟨w.heap.size + 1 + 1, k - 16, none⟩ = some (.int .u32 (u : Int)) := ⟨(cell_old _ _ _ _ SZ1).trans hS.1, (cell_old _ _ _ _ SZ1).trans hS.2⟩
            refine hK.out _ _ hS ?_
            clear hK
            (try simp only [Act.put, List.setIfInBounds_toArray, List.set_cons_zero, List.set_cons_succ])
            have I5 := Lib.hid (I4.out.alloc (.cells #[.int .i64 7, .int .i64 18] 3))
            have g130 := cell_new V1 #[.int .i64 7, .int .i64 18] 3 0
            have g131 := cell_new V1 #[.int .i64 7, .int .i64 18] 3 1
            have hz13 : V1.heap.size < (V1.alloc (.cells #[.int .i64 7, .int .i64 18] 3)).heap.size := by simp
            have cw2 := (cell_old V1 (.cells #[.int .i64 7, .int .i64 18] 3) _ _ SZ1).trans cw1
            have fw2 := Arr.frozen I5.out.hw k
            have SZ2 : w.heap.size + 1 + 1 < (V1.alloc (.cells #[.int .i64 7, .int .i64 18] 3)).heap.size := by simp; omega
            have g20 := (cell_old V1 (.cells #[.int .i64 7, .int .i64 18] 3) _ _ hz2).trans g20
            have g21 := (cell_old V1 (.cells #[.int .i64 7, .int .i64 18] 3) _ _ hz2).trans g21
            clear cw1 fw1 I4
            generalize V1.alloc (.cells #[.int .i64 7, .int .i64 18] 3) = V2 at *
            refine TR.eff _ (by simp only [List.getElem?_toArray, List.getElem?_cons_succ, List.getElem?_cons_zero]; rfl) (by rfl) (fun K hK => ?_); go_simp
            refine (RB.out _ _ g130 g131).mono ?_
            rintro e w' ⟨rfl, rfl⟩
            go_wp2_with fail; refine hK.out _ _ hS ?_; clear hK; (try simp only [Act.put, List.setIfInBounds_toArray, List.set_cons_zero, List.set_cons_succ])
            iterate 4 ((first | (refine TR.val2 (v := ?_) _ (by simp only [List.getElem?_toArray, List.getElem?_cons_succ, List.getElem?_cons_zero]; rfl) ?_ ?_ ?_ ?_ ?_; rotate_left; (focus rfl); (focus (intro W hSW; (try dsimp only at hSW); (try (obtain ⟨hS1, hSW⟩ := hSW)); (try (obtain ⟨hS2, hSW⟩ := hSW)); (try (obtain ⟨hS3, hSW⟩ := hSW)); (try (obtain ⟨hS4, hSW⟩ := hSW)); (try (obtain ⟨hS5, hSW⟩ := hSW)); go_simp; (try with_reducible rfl); done)); (focus exact fun _ _ _ h => h); (focus assumption)) | (refine TR.skip _ (by simp only [List.getElem?_toArray, List.getElem?_cons_succ, List.getElem?_cons_zero]; rfl) ?_ ?_ ?_ ?_; (focus rfl); (focus exact fun _ _ _ h => h); (focus assumption))); simp only [Act.put, List.setIfInBounds_toArray, List.set_cons_zero, List.set_cons_succ])
            refine TR.eff _ (by simp only [List.getElem?_toArray, List.getElem?_cons_succ, List.getElem?_cons_zero]; rfl) (by rfl) (fun K hK => ?_); go_simp
            refine hK.out _ _ ⟨(World.cell?_setCell_other V2 ⟨w.heap.size + 1 + 1, k, none⟩ ⟨w.heap.size + 1 + 1, k - 7, none⟩ _ (by intro e; injection e; omega)).trans hS.1, (World.cell?_setCell_other V2 ⟨w.heap.size + 1 + 1, k, none⟩ ⟨w.heap.size + 1 + 1, k - 16, none⟩ _ (by intro e; injection e; omega)).trans hS.2⟩ ?_
            clear hK
            refine TR.done ?_
            have I9 := Lib.hid (I5.out.set_ HK.out.lt k m m rfl HW.out)
            go_wp2
            go_roundw
            case rel => exact ⟨k + 1, hlt, by go_num, I9.out⟩
            case measure => simp [intOf]; omega
          · go_simp
            have hS : (V1.alloc (.cells #[.int .i64 7, .int .i64 18] 3)).cell? ⟨w.heap.size + 1 + 1, k - 7, none⟩ = some (.int .u32 (y : Int)) ∧ (V1.alloc (.cells #[.int .i64 7, .int .i64 18] 3)).cell? ⟨w.heap.size + 1 + 1, k - 16, none⟩ = some (.int .u32 (u : Int)) := ⟨(cell_old _ _ _ _ SZ1).trans hS.1, (cell_old _ _ _ _ SZ1).trans hS.2⟩
            refine hK.out _ _ hS ?_
            clear hK
            (try simp only [Act.put, List.setIfInBounds_toArray, List.set_cons_zero, List.set_cons_succ])
            have I5 := Lib.hid (I4.out.alloc (.cells #[.int .i64 7, .int .i64 18] 3))
            have g130 := cell_new V1 #[.int .i64 7, .int .i64 18] 3 0
            have g131 := cell_new V1 #[.int .i64 7, .int .i64 18] 3 1
            have hz13 : V1.heap.size < (V1.alloc (.cells #[.int .i64 7, .int .i64 18] 3)).heap.size := by simp
            have cw2 := (cell_old V1 (.cells #[.int .i64 7, .int .i64 18] 3) _ _ SZ1).trans cw1
            have fw2 := Arr.frozen I5.out.hw k
            have SZ2 : w.heap.size + 1 + 1 < (V1.alloc (.cells #[.int .i64 7, .int .i64 18] 3)).heap.size := by simp; omega
            have g20 := (cell_old V1 (.cells #[.int .i64 7, .int .i64 18] 3) _ _ hz2).trans g20
            have g21 := (cell_old V1 (.cells #[.int .i64 7, .int .i64 18] 3) _ _ hz2).trans g21
            clear cw1 fw1 I4
            generalize V1.alloc (.cells #[.int .i64 7, .int .i64 18] 3) = V2 at *
            refine TR.eff _ (by simp only [List.getElem?_toArray, List.getElem?_cons_succ, List.getElem?_cons_zero]; rfl) (by rfl) (fun K hK => ?_); go_simp
            refine (RA.out _ _ g20 g21).mono ?_
            rintro e w' ⟨rfl, rfl⟩
            go_wp2_with fail; refine hK.out _ _ hS ?_; clear hK; (try simp only [Act.put, List.setIfInBounds_toArray, List.set_cons_zero, List.set_cons_succ])
            iterate 2 ((first | (refine TR.val2 (v := ?_) _ (by simp only [List.getElem?_toArray, List.getElem?_cons_succ, List.getElem?_cons_zero]; rfl) ?_ ?_ ?_ ?_ ?_; rotate_left; (focus rfl); (focus (intro W hSW; (try dsimp only at hSW); (try (obtain ⟨hS1, hSW⟩ := hSW)); (try (obtain ⟨hS2, hSW⟩ := hSW)); (try (obtain ⟨hS3, hSW⟩ := hSW)); (try (obtain ⟨hS4, hSW⟩ := hSW)); (try (obtain ⟨hS5, hSW⟩ := hSW)); go_simp; (try with_reducible rfl); done)); (focus exact fun _ _ _ h => h); (focus assumption)) | (refine TR.skip _ (by simp only [List.getElem?_toArray, List.getElem?_cons_succ, List.getElem?_cons_zero]; rfl) ?_ ?_ ?_ ?_; (focus rfl); (focus exact fun _ _ _ h => h); (focus assumption))); simp only [Act.put, List.setIfInBounds_toArray, List.set_cons_zero, List.set_cons_succ])
            refine TR.eff _ (by simp only [List.getElem?_toArray, List.getElem?_cons_succ, List.getElem?_cons_zero]; rfl) (by rfl) (fun K hK => ?_); go_simp
            refine (RB.out _ _ g130 g131).mono ?_
            rintro e w' ⟨rfl, rfl⟩
            go_wp2_with fail; refine hK.out _ _ hS ?_; clear hK; (try simp only [Act.put, List.setIfInBounds_toArray, List.set_cons_zero, List.set_cons_succ])
            iterate 4 ((first | (refine TR.val2 (v := ?_) _ (by simp only [List.getElem?_toArray, List.getElem?_cons_succ, List.getElem?_cons_zero]; rfl) ?_ ?_ ?_ ?_ ?_; rotate_left; (focus rfl); (focus (intro W hSW; (try dsimp only at hSW); (try (obtain ⟨hS1, hSW⟩ := hSW)); (try (obtain ⟨hS2, hSW⟩ := hSW)); (try (obtain ⟨hS3, hSW⟩ := hSW)); (try (obtain ⟨hS4, hSW⟩ := hSW)); (try (obtain ⟨hS5, hSW⟩ := hSW)); go_simp; (try with_reducible rfl); done)); (focus exact fun _ _ _ h => h); (focus assumption)) | (refine TR.skip _ (by simp only [List.getElem?_toArray, List.getElem?_cons_succ, List.getElem?_cons_zero]; rfl) ?_ ?_ ?_ ?_; (focus rfl); (focus exact fun _ _ _ h => h); (focus assumption))); simp only [Act.put, List.setIfInBounds_toArray, List.set_cons_zero, List.set_cons_succ])
            refine TR.eff _ (by simp only [List.getElem?_toArray, List.getElem?_cons_succ, List.getElem?_cons_zero]; rfl) (by rfl) (fun K hK => ?_); go_simp
            refine hK.out _ _ ⟨(World.cell?_setCell_other V2 ⟨w.heap.size + 1 + 1, k, none⟩ ⟨w.heap.size + 1 + 1, k - 7, none⟩ _ (by intro e; injection e; omega)).trans hS.1, (World.cell?_setCell_other V2 ⟨w.heap.size + 1 + 1, k, none⟩ ⟨w.heap.size + 1 + 1, k - 16, none⟩ _ (by intro e; injection e; omega)).trans hS.2⟩ ?_
            clear hK
            refine TR.done ?_
            have I9 := Lib.hid (I5.out.set_ HK.out.lt k m m rfl HW.out)
            go_wp2
            go_roundw
            case rel => exact ⟨k + 1, hlt, by go_num, I9.out⟩
            case measure => simp [intOf]; omega
        · go_simp
          have hS : (V0.alloc (.cells #[.int .i64 7, .int .i64 18] 3)).cell? ⟨w.heap.size + 1 + 1, k - 7, none⟩ = some (.int .u32 (y : Int)) ∧ (V0.alloc (.cells #[.int .i64 7, .int .i64 18] 3)).cell? ⟨w.heap.size + 1 + 1, k - 16, none⟩ = some (.int .u32 (u : Int)) := ⟨(cell_old _ _ _ _ SZ0).trans hS.1, (cell_old _ _ _ _ SZ0).trans hS.2⟩
          refine hK.out _ _ hS ?_
          clear hK
          (try simp only [Act.put, List.setIfInBounds_toArray, List.set_cons_zero, List.set_cons_succ])
          have I4 := Lib.hid (I3.out.alloc (.cells #[.int .i64 7, .int .i64 18] 3))
          have g130 := cell_new V0 #[.int .i64 7, .int .i64 18] 3 0
          have g131 := cell_new V0 #[.int .i64 7, .int .i64 18] 3 1
          have hz13 : V0.heap.size < (V0.alloc (.cells #[.int .i64 7, .int .i64 18] 3)).heap.size := by simp
          have cw1 := (cell_old V0 (.cells #[.int .i64 7, .int .i64 18] 3) _ _ SZ0).trans cw0
          have fw1 := Arr.frozen I4.out.hw k
          have SZ1 : w.heap.size + 1 + 1 < (V0.alloc (.cells #[.int .i64 7, .int .i64 18] 3)).heap.size := by simp; omega
          clear cw0 fw0 I3
          generalize V0.alloc (.cells #[.int .i64 7, .int .i64 18] 3) = V1 at *
          refine TR.eff _ (by simp only [List.getElem?_toArray, List.getElem?_cons_succ, List.getElem?_cons_zero]; rfl) (by rfl) (fun K hK => ?_); go_simp
          have hS : (V1.alloc (.cells #[.int .i64 17, .int .i64 19] 3)).cell? ⟨w.heap.size + 1 + 1, k - 7, none⟩ = some (.int .u32 (y : Int)) ∧ (V1.alloc (.cells #[.int .i64 17, .int .i64 19] 3)).cell? ⟨w.heap.size + 1 + 1, k - 16, none⟩ = some (.int .u32 (u : Int)) := ⟨(cell_old _ _ _ _ SZ1).trans hS.1, (cell_old _ _ _ _ SZ1).trans hS.2⟩
          refine hK.out _ _ hS ?_
          clear hK
          (try simp only [Act.put, List.setIfInBounds_toArray, List.set_cons_zero, List.set_cons_succ])
          have I5 := Lib.hid (I4.out.alloc (.cells #[.int .i64 17, .int .i64 19] 3))
          have g20 := cell_new V1 #[.int .i64 17, .int .i64 19] 3 0
          have g21 := cell_new V1 #[.int .i64 17, .int .i64 19] 3 1
          have hz2 : V1.heap.size < (V1.alloc (.cells #[.int .i64 17, .int .i64 19] 3)).heap.size := by simp
          have cw2 := (cell_old V1 (.cells #[.int .i64 17, .int .i64 19] 3) _ _ SZ1).trans cw1
          have fw2 := Arr.frozen I5.out.hw k
          have SZ2 : w.heap.size + 1 + 1 < (V1.alloc (.cells #[.int .i64 17, .int .i64 19] 3)).heap.size := by simp; omega
          have g130 := (cell_old V1 (.cells #[.int .i64 17, .int .i64 19] 3) _ _ hz13).trans g130
          have g131 := (cell_old V1 (.cells #[.int .i64 17, .int .i64 19] 3) _ _ hz13).trans g131
          clear cw1 fw1 I4
          generalize V1.alloc (.cells #[.int .i64 17, .int .i64 19] 3) = V2 at *
          refine TR.eff _ (by simp only [List.getElem?_toArray, List.getElem?_cons_succ, List.getElem?_cons_zero]; rfl) (by rfl) (fun K hK => ?_); go_simp
          refine (RA.out _ _ g20 g21).mono ?_
          rintro e w' ⟨rfl, rfl⟩
          go_wp2_with fail; refine hK.out _ _ hS ?_; clear hK; (try simp only [Act.put, List.setIfInBounds_toArray, List.set_cons_zero, List.set_cons_succ])
          iterate 2 ((first | (refine TR.val2 (v := ?_) _ (by simp only [List.getElem?_toArray, List.getElem?_cons_succ, List.getElem?_cons_zero]; rfl) ?_ ?_ ?_ ?_ ?_; rotate_left; (focus rfl); (focus (intro W hSW; (try dsimp only at hSW); (try (obtain ⟨hS1, hSW⟩ := hSW)); (try (obtain ⟨hS2, hSW⟩ := hSW)); (try (obtain ⟨hS3, hSW⟩ := hSW)); (try (obtain ⟨hS4, hSW⟩ := hSW)); (try (obtain ⟨hS5, hSW⟩ := hSW)); go_simp; (try with_reducible rfl); done)); (focus exact fun _ _ _ h => h); (focus assumption)) | (refine TR.skip _ (by simp only [List.getElem?_toArray, List.getElem?_cons_succ, List.getElem?_cons_zero]; rfl) ?_ ?_ ?_ ?_; (focus rfl); (focus exact fun _ _ _ h => h); (focus assumption))); simp only [Act.put, List.setIfInBounds_toArray, List.set_cons_zero, List.set_cons_succ])
          refine TR.eff _ (by simp only [List.getElem?_toArray, List.getElem?_cons_succ, List.getElem?_cons_zero]; rfl) (by rfl) (fun K hK => ?_); go_simp
          refine (RB.out _ _ g130 g131).mono ?_
          rintro e w' ⟨rfl, rfl⟩
          go_wp2_with fail; refine hK.out _ _ hS ?_; clear hK; (try simp only [Act.put, List.setIfInBounds_toArray, List.set_cons_zero, List.set_cons_succ])
          iterate 4 ((first | (refine TR.val2 (v := ?_) _ (by simp only [List.getElem?_toArray, List.getElem?_cons_succ, List.getElem?_cons_zero]; rfl) ?_ ?_ ?_ ?_ ?_; rotate_left; (focus rfl); (focus (intro W hSW; (try dsimp only at hSW); (try (obtain ⟨hS1, hSW⟩ := hSW)); (try (obtain ⟨hS2, hSW⟩ := hSW)); (try (obtain ⟨hS3, hSW⟩ := hSW)); (try (obtain ⟨hS4, hSW⟩ := hSW)); (try (obtain ⟨hS5, hSW⟩ := hSW)); go_simp; (try with_reducible rfl); done)); (focus exact fun _ _ _ h => h); (focus assumption)) | (refine TR.skip _ (by simp only [List.getElem?_toArray, List.getElem?_cons_succ, List.getElem?_cons_zero]; rfl) ?_ ?_ ?_ ?_; (focus rfl); (focus exact fun _ _ _ h => h); (focus assumption))); simp only [Act.put, List.setIfInBounds_toArray, List.set_cons_zero, List.set_cons_succ])
          refine TR.eff _ (by simp only [List.getElem?_toArray, List.getElem?_cons_succ, List.getElem?_cons_zero]; rfl) (by rfl) (fun K hK => ?_); go_simp
          refine hK.out _ _ ⟨(World.cell?_setCell_other V2 ⟨w.heap.size + 1 + 1, k, none⟩ ⟨w.heap.size + 1 + 1, k - 7, none⟩ _ (by intro e; injection e; omega)).trans hS.1, (World.cell?_setCell_other V2 ⟨w.heap.size + 1 + 1, k, none⟩ ⟨w.heap.size + 1 + 1, k - 16, none⟩ _ (by intro e; injection e; omega)).trans hS.2⟩ ?_
          clear hK
          refine TR.done ?_
          have I9 := Lib.hid (I5.out.set_ HK.out.lt k m m rfl HW.out)
          go_wp2
          go_roundw
          case rel => exact ⟨k + 1, hlt, by go_num, I9.out⟩
          case measure => simp [intOf]; omega
    · obtain rfl : k = 64 := by omega
      rw [show ((64 : Nat) : Int) = 64 from rfl]
      have J := Lib.hid (show BlkI w gk ks s.list A l wr (wSched l 64) by have := I.out; simpa using this)
      clear I hk hlt
      have c0 := Arr.cell J.out.hs (j := 0) rfl
      have c1 := Arr.cell J.out.hs (j := 1) rfl
      have c2 := Arr.cell J.out.hs (j := 2) rfl
      have c3 := Arr.cell J.out.hs (j := 3) rfl
      have c4 := Arr.cell J.out.hs (j := 4) rfl
      have c5 := Arr.cell J.out.hs (j := 5) rfl
      have c6 := Arr.cell J.out.hs (j := 6) rfl
      have c7 := Arr.cell J.out.hs (j := 7) rfl
      go_wp2
      have J2 := Lib.hid (show BlkJ w gk ks s.list A l wr.heap.size (wr.alloc (.cells #[.int .u32 (s.a : Int), .int .u32 (s.b : Int), .int .u32 (s.c : Int), .int .u32 (s.d : Int), .int .u32 (s.e : Int), .int .u32 (s.f : Int), .int .u32 (s.g : Int), .int .u32 (s.h : Int)] 80)) (wSched l 64) s.list from ⟨J.out.alloc _, Arr.new wr _ _ rfl, J.out.hz⟩)
      have GV := Lib.hid (show w.heap.size + 1 + 1 < wr.heap.size from J.out.hz)
      clear c0 c1 c2 c3 c4 c5 c6 c7 J
      generalize wr.alloc (.cells #[.int .u32 (s.a : Int), .int .u32 (s.b : Int), .int .u32 (s.c : Int), .int .u32 (s.d : Int), .int .u32 (s.e : Int), .int .u32 (s.f : Int), .int .u32 (s.g : Int), .int .u32 (s.h : Int)] 80) = wv at *
      generalize wr.heap.size = gv at *
      clear wr
      go_loopw [93] (fun i wq => ∃ k : Nat, k ≤ 64 ∧ i = .int .i64 (k : Int) ∧ BlkJ w gk ks s.list A l gv wq (wSched l 64) (rnds ks (wSched l 64) s k).list) (fun i _ => 64 - (intOf i).toNat)
      case atStart => exact ⟨0, Nat.zero_le _, rfl, J2.out⟩
      case round =>
        clear J2
        obtain ⟨k, hk, rfl, hJ⟩ := hrel
        have J := Lib.hid hJ
        clear hJ
        have GV := J.out.hg
        by_cases hlt : k < 64
        · obtain ⟨v, hv⟩ : ∃ v, rnds ks (wSched l 64) s k = v := ⟨_, rfl⟩
          have FV := rnds_fit (show s.fit from HSB.out) ks (wSched l 64) k
          rw [hv] at J FV
          obtain ⟨kt, hkt⟩ : ∃ kt, ks[k]? = some kt := ⟨_, List.getElem?_eq_getElem (by rw [HKL.out]; exact hlt)⟩
          obtain ⟨wt, hwt⟩ : ∃ wt, (wSched l 64)[k]? = some wt := ⟨_, List.getElem?_eq_getElem (by rw [wSched_len]; exact hlt)⟩
          have HN := Lib.hid (show rnds ks (wSched l 64) s (k + 1) = v.rnd kt wt by rw [rnds, hv, getD_of hkt, getD_of hwt])
          have CK := Lib.hid (Arr.cell J.out.i.hk hkt)
          have CW := Lib.hid (Arr.cell J.out.i.hw hwt)
          clear hv hkt hwt hk
          obtain ⟨va, vb, vc, vd, ve, vf, vg, vh⟩ := v
          obtain ⟨ba, bb, bc, bd, be, bf, bg, bh⟩ := St.fit_all FV
          simp only [] at ba bb bc bd be bf bg bh
          clear FV
          obtain ⟨r, t1, a2, n1, a3, x1, t2, t3, m, hr, hm, f1, f2, f3, f4, f5, f6, f7, f8, bm⟩ := one_parts ve vf vg vh kt wt be bf bg
          obtain ⟨r', b1, b2, y1, b3, y2, m', hr', hm', h1, h2, h3, h4, h5, h6, bm'⟩ := two_parts va vb vc ba bb bc
          have RA := Lib.hid (fun (V : World) (b : Nat) (g0 : V.cell? ⟨b, 0, none⟩ = some (.int .i64 6)) (g1 : V.cell? ⟨b, 1, none⟩ = some (.int .i64 11)) (g2 : V.cell? ⟨b, 2, none⟩ = some (.int .i64 25)) =>
            show Calls Try.prog 63 #[.int .u32 (ve : Int), .slice (some ⟨b, 0, none⟩) 3 3] V fun e w' => e = .returned (.int .u32 (r : Int)) ∧ V = w' from hr ▸ right_v ve _ _ 3 3 [6, 11, 25] _ (NReads.three g0 g1 g2) be (by decide) (by omega))
          have RB := Lib.hid (fun (V : World) (b : Nat) (g0 : V.cell? ⟨b, 0, none⟩ = some (.int .i64 2)) (g1 : V.cell? ⟨b, 1, none⟩ = some (.int .i64 13)) (g2 : V.cell? ⟨b, 2, none⟩ = some (.int .i64 22)) =>
            show Calls Try.prog 63 #[.int .u32 (va : Int), .slice (some ⟨b, 0, none⟩) 3 3] V fun e w' => e = .returned (.int .u32 (r' : Int)) ∧ V = w' from hr' ▸ right_v va _ _ 3 3 [2, 13, 22] _ (NReads.three g0 g1 g2) ba (by decide) (by omega))
          have HR2 := Lib.hid (show (St.mk va vb vc vd ve vf vg vh).rnd kt wt = ⟨(m + m') % 4294967296, va, vb, vc, (vd + m) % 4294967296, ve, vf, vg⟩ by rw [St.rnd]; simp only [hm, hm'])
          rw [HR2.out] at HN
          have q1 := wrap_add m m'
          have q2 := wrap_add vd m
          have q3 := mod_add m m'
          have q4 := mod_add vd m
          obtain ⟨z1, hz1⟩ : ∃ z1, (m + m') % 4294967296 = z1 := ⟨_, rfl⟩
          obtain ⟨z2, hz2⟩ : ∃ z2, (vd + m) % 4294967296 = z2 := ⟨_, rfl⟩
          rw [hz1] at q1 q3 HN
          rw [hz2] at q2 q4 HN
          have d1 := dec_lt hlt
          have c0 := Arr.cell J.out.hv (j := 0) rfl
          have c4 := Arr.cell J.out.hv (j := 4) rfl
          simp only [] at c0 c4
          clear hz1 hz2 HR2 hr hm hr' hm'
          go_wp2
          go_quiet (fail)
          have J3 := Lib.hid (J.out.drewN nq)
          have CK3 : Hid ((wr.drewN nq).cell? ⟨gk, k, none⟩ = some (.int .u32 (kt : Int))) := Lib.hid CK.out
          have CW3 : Hid ((wr.drewN nq).cell? ⟨w.heap.size + 1 + 1, k, none⟩ = some (.int .u32 (wt : Int))) := Lib.hid CW.out
          clear J c0 c4 CK CW
          generalize wr.drewN nq = W at *
          have k0 : (0 : Int) ≤ (k : Int) := by omega
          have k1 : (k : Int) < 64 := by omega
          go_wp2_with fail
          refine wp_region_tree (SK.one 0 false <| .one 1 false <| .one 2 false <| .one 6 false <| .one 7 false <| .one 8 false <| .one 9 false <| .one 10 false <| .one 11 false <| .one 12 false <| .one 13 false <| .one 14 false <| .one 15 false <| .one 17 false <| .one 18 false <| .one 19 false <| .one 20 false <| .one 21 false <| .one 23 false <| .one 24 false <| .one 25 false <| .one 3 true <| .one 4 true <| .one 5 false <| .one 16 false <| .one 22 false <| .one 26 false <| .one 27 false .done) (fun V => V.cell? ⟨gv, 7, none⟩ = some (.int .u32 (vh : Int)) ∧ V.cell? ⟨gv, 5, none⟩ = some (.int .u32 (vf : Int)) ∧ V.cell? ⟨gv, 6, none⟩ = some (.int .u32 (vg : Int)) ∧ V.cell? ⟨gk, k, none⟩ = some (.int .u32 (kt : Int)) ∧ V.cell? ⟨w.heap.size + 1 + 1, k, none⟩ = some (.int .u32 (wt : Int))) (by kernel_rfl) (by kernel_rfl) (by kernel_rfl) (by kernel_rfl) ?_
          have hS : W.drew.cell? ⟨gv, 7, none⟩ = some (.int .u32 (vh : Int)) ∧ W.drew.cell? ⟨gv, 5, none⟩ = some (.int .u32 (vf : Int)) ∧ W.drew.cell? ⟨gv, 6, none⟩ = some (.int .u32 (vg : Int)) ∧ W.drew.cell? ⟨gk, k, none⟩ = some (.int .u32 (kt : Int)) ∧ W.drew.cell? ⟨w.heap.size + 1 + 1, k, none⟩ = some (.int .u32 (wt : Int)) := ⟨Arr.cell J3.out.hv (j := 7) rfl, Arr.cell J3.out.hv (j := 5) rfl, Arr.cell J3.out.hv (j := 6) rfl, CK3.out, CW3.out⟩
          have J4 := Lib.hid J3.out.drew
          clear J3 CK3 CW3
          generalize W.drew = V0 at *
          ((first | (refine TR.val2 (v := ?_) _ (by simp only [List.getElem?_toArray, List.getElem?_cons_zero]; rfl) ?_ ?_ ?_ ?_ ?_; rotate_left; (focus rfl); (focus (intro W hSW; (try dsimp only at hSW); (try (obtain ⟨hS1, hSW⟩ := hSW)); (try (obtain ⟨hS2, hSW⟩ := hSW)); (try (obtain ⟨hS3, hSW⟩ := hSW)); (try (obtain ⟨hS4, hSW⟩ := hSW)); (try (obtain ⟨hS5, hSW⟩ := hSW)); go_simp; (try with_reducible rfl); done)); (focus exact fun _ _ _ h => h); (focus assumption)) | (refine TR.skip _ (by simp only [List.getElem?_toArray, List.getElem?_cons_zero]; rfl) ?_ ?_ ?_ ?_; (focus rfl); (focus exact fun _ _ _ h => h); (focus assumption))); simp only [Act.put, List.setIfInBounds_toArray, List.set_cons_zero, List.set_cons_succ])
          iterate 20 ((first | (refine TR.val2 (v := ?_) _ (by simp only [List.getElem?_toArray, List.getElem?_cons_succ, List.getElem?_cons_zero]; rfl) ?_ ?_ ?_ ?_ ?_; rotate_left; (focus rfl); (focus (intro W hSW; (try dsimp only at hSW); (try (obtain ⟨hS1, hSW⟩ := hSW)); (try (obtain ⟨hS2, hSW⟩ := hSW)); (try (obtain ⟨hS3, hSW⟩ := hSW)); (try (obtain ⟨hS4, hSW⟩ := hSW)); (try (obtain ⟨hS5, hSW⟩ := hSW)); go_simp; (try with_reducible rfl); done)); (focus exact fun _ _ _ h => h); (focus assumption)) | (refine TR.skip _ (by simp only [List.getElem?_toArray, List.getElem?_cons_succ, List.getElem?_cons_zero]; rfl) ?_ ?_ ?_ ?_; (focus rfl); (focus exact fun _ _ _ h => h); (focus assumption))); simp only [Act.put, List.setIfInBounds_toArray, List.set_cons_zero, List.set_cons_succ])
          refine TR.eff _ (by simp only [List.getElem?_toArray, List.getElem?_cons_succ, List.getElem?_cons_zero]; rfl) (by rfl) (fun K hK => ?_); go_simp
          have J5 := Lib.hid (J4.out.alloc (.cells #[.int .i64 6, .int .i64 11, .int .i64 25] 3))
          have g0 := cell_new V0 #[.int .i64 6, .int .i64 11, .int .i64 25] 3 0
          have g1 := cell_new V0 #[.int .i64 6, .int .i64 11, .int .i64 25] 3 1
          have g2 := cell_new V0 #[.int .i64 6, .int .i64 11, .int .i64 25] 3 2
          have hS : (V0.alloc (.cells #[.int .i64 6, .int .i64 11, .int .i64 25] 3)).cell? ⟨gv, 7, none⟩ = some (.int .u32 (vh : Int)) ∧ (V0.alloc (.cells #[.int .i64 6, .int .i64 11, .int .i64 25] 3)).cell? ⟨gv, 5, none⟩ = some (.int .u32 (vf : Int)) ∧ (V0.alloc (.cells #[.int .i64 6, .int .i64 11, .int .i64 25] 3)).cell? ⟨gv, 6, none⟩ = some (.int .u32 (vg : Int)) ∧ (V0.alloc (.cells #[.int .i64 6, .int .i64 11, .int .i64 25] 3)).cell? ⟨gk, k, none⟩ = some (.int .u32 (kt : Int)) ∧ (V0.alloc (.cells #[.int .i64 6, .int .i64 11, .int .i64 25] 3)).cell? ⟨w.heap.size + 1 + 1, k, none⟩ = some (.int .u32 (wt : Int)) := ⟨Arr.cell J5.out.hv (j := 7) rfl, Arr.cell J5.out.hv (j := 5) rfl, Arr.cell J5.out.hv (j := 6) rfl, (cell_old _ _ _ _ J4.out.i.hk.lt).trans hS.2.2.2.1, (cell_old _ _ _ _ J4.out.i.hw.lt).trans hS.2.2.2.2⟩
          refine hK.out _ _ hS ?_
          clear hK J4
          (try simp only [Act.put, List.setIfInBounds_toArray, List.set_cons_zero, List.set_cons_succ])
          generalize V0.alloc (.cells #[.int .i64 6, .int .i64 11, .int .i64 25] 3) = V1 at *
          refine TR.eff _ (by simp only [List.getElem?_toArray, List.getElem?_cons_succ, List.getElem?_cons_zero]; rfl) (by rfl) (fun K hK => ?_); go_simp
          refine (RA.out _ _ g0 g1 g2).mono ?_
          rintro e w' ⟨rfl, rfl⟩
          go_wp2_with fail; refine hK.out _ _ hS ?_; clear hK; (try simp only [Act.put, List.setIfInBounds_toArray, List.set_cons_zero, List.set_cons_succ])
          iterate 5 ((first | (refine TR.val2 (v := ?_) _ (by simp only [List.getElem?_toArray, List.getElem?_cons_succ, List.getElem?_cons_zero]; rfl) ?_ ?_ ?_ ?_ ?_; rotate_left; (focus rfl); (focus (intro W hSW; (try dsimp only at hSW); (try (obtain ⟨hS1, hSW⟩ := hSW)); (try (obtain ⟨hS2, hSW⟩ := hSW)); (try (obtain ⟨hS3, hSW⟩ := hSW)); (try (obtain ⟨hS4, hSW⟩ := hSW)); (try (obtain ⟨hS5, hSW⟩ := hSW)); go_simp; (try with_reducible rfl); done)); (focus exact fun _ _ _ h => h); (focus assumption)) | (refine TR.skip _ (by simp only [List.getElem?_toArray, List.getElem?_cons_succ, List.getElem?_cons_zero]; rfl) ?_ ?_ ?_ ?_; (focus rfl); (focus exact fun _ _ _ h => h); (focus assumption))); simp only [Act.put, List.setIfInBounds_toArray, List.set_cons_zero, List.set_cons_succ])
          refine TR.done ?_
          clear hS g0 g1 g2 RA f1 f2 f3 f4 f5 f6 f7 f8
          go_wp2_with fail
          refine wp_region_tree (SK.one 0 false <| .one 3 false <| .one 4 false <| .one 5 false <| .one 6 false <| .one 7 false <| .one 8 false <| .one 9 false <| .one 10 false <| .one 11 false <| .one 12 false <| .one 13 false <| .one 14 false <| .one 15 false <| .one 16 false <| .one 17 false <| .one 1 true <| .one 2 true <| .one 18 false <| .one 19 false .done) (fun V => V.cell? ⟨gv, 1, none⟩ = some (.int .u32 (vb : Int)) ∧ V.cell? ⟨gv, 2, none⟩ = some (.int .u32 (vc : Int))) (by kernel_rfl) (by kernel_rfl) (by kernel_rfl) (by kernel_rfl) ?_
          have hS : V1.drew.cell? ⟨gv, 1, none⟩ = some (.int .u32 (vb : Int)) ∧ V1.drew.cell? ⟨gv, 2, none⟩ = some (.int .u32 (vc : Int)) := ⟨Arr.cell J5.out.drew.hv (j := 1) rfl, Arr.cell J5.out.drew.hv (j := 2) rfl⟩
          have J6 := Lib.hid J5.out.drew
          clear J5
          generalize V1.drew = V2 at *
          ((first | (refine TR.val2 (v := ?_) _ (by simp only [List.getElem?_toArray, List.getElem?_cons_zero]; rfl) ?_ ?_ ?_ ?_ ?_; rotate_left; (focus rfl); (focus (intro W hSW; (try dsimp only at hSW); (try (obtain ⟨hS1, hSW⟩ := hSW)); (try (obtain ⟨hS2, hSW⟩ := hSW)); (try (obtain ⟨hS3, hSW⟩ := hSW)); (try (obtain ⟨hS4, hSW⟩ := hSW)); (try (obtain ⟨hS5, hSW⟩ := hSW)); go_simp; (try with_reducible rfl); done)); (focus exact fun _ _ _ h => h); (focus assumption)) | (refine TR.skip _ (by simp only [List.getElem?_toArray, List.getElem?_cons_zero]; rfl) ?_ ?_ ?_ ?_; (focus rfl); (focus exact fun _ _ _ h => h); (focus assumption))); simp only [Act.put, List.setIfInBounds_toArray, List.set_cons_zero, List.set_cons_succ])
          iterate 15 ((first | (refine TR.val2 (v := ?_) _ (by simp only [List.getElem?_toArray, List.getElem?_cons_succ, List.getElem?_cons_zero]; rfl) ?_ ?_ ?_ ?_ ?_; rotate_left; (focus rfl); (focus (intro W hSW; (try dsimp only at hSW); (try (obtain ⟨hS1, hSW⟩ := hSW)); (try (obtain ⟨hS2, hSW⟩ := hSW)); (try (obtain ⟨hS3, hSW⟩ := hSW)); (try (obtain ⟨hS4, hSW⟩ := hSW)); (try (obtain ⟨hS5, hSW⟩ := hSW)); go_simp; (try with_reducible rfl); done)); (focus exact fun _ _ _ h => h); (focus assumption)) | (refine TR.skip _ (by simp only [List.getElem?_toArray, List.getElem?_cons_succ, List.getElem?_cons_zero]; rfl) ?_ ?_ ?_ ?_; (focus rfl); (focus exact fun _ _ _ h => h); (focus assumption))); simp only [Act.put, List.setIfInBounds_toArray, List.set_cons_zero, List.set_cons_succ])
          refine TR.eff _ (by simp only [List.getElem?_toArray, List.getElem?_cons_succ, List.getElem?_cons_zero]; rfl) (by rfl) (fun K hK => ?_); go_simp
          have J7 := Lib.hid (J6.out.alloc (.cells #[.int .i64 2, .int .i64 13, .int .i64 22] 3))
          have g0 := cell_new V2 #[.int .i64 2, .int .i64 13, .int .i64 22] 3 0
          have g1 := cell_new V2 #[.int .i64 2, .int .i64 13, .int .i64 22] 3 1
          have g2 := cell_new V2 #[.int .i64 2, .int .i64 13, .int .i64 22] 3 2
          have hS : (V2.alloc (.cells #[.int .i64 2, .int .i64 13, .int .i64 22] 3)).cell? ⟨gv, 1, none⟩ = some (.int .u32 (vb : Int)) ∧ (V2.alloc (.cells #[.int .i64 2, .int .i64 13, .int .i64 22] 3)).cell? ⟨gv, 2, none⟩ = some (.int .u32 (vc : Int)) := ⟨Arr.cell J7.out.hv (j := 1) rfl, Arr.cell J7.out.hv (j := 2) rfl⟩
          refine hK.out _ _ hS ?_
          clear hK J6
          (try simp only [Act.put, List.setIfInBounds_toArray, List.set_cons_zero, List.set_cons_succ])
          generalize V2.alloc (.cells #[.int .i64 2, .int .i64 13, .int .i64 22] 3) = V3 at *
          refine TR.eff _ (by simp only [List.getElem?_toArray, List.getElem?_cons_succ, List.getElem?_cons_zero]; rfl) (by rfl) (fun K hK => ?_); go_simp
          refine (RB.out _ _ g0 g1 g2).mono ?_
          rintro e w' ⟨rfl, rfl⟩
          go_wp2_with fail; refine hK.out _ _ hS ?_; clear hK; (try simp only [Act.put, List.setIfInBounds_toArray, List.set_cons_zero, List.set_cons_succ])
          iterate 2 ((first | (refine TR.val2 (v := ?_) _ (by simp only [List.getElem?_toArray, List.getElem?_cons_succ, List.getElem?_cons_zero]; rfl) ?_ ?_ ?_ ?_ ?_; rotate_left; (focus rfl); (focus (intro W hSW; (try dsimp only at hSW); (try (obtain ⟨hS1, hSW⟩ := hSW)); (try (obtain ⟨hS2, hSW⟩ := hSW)); (try (obtain ⟨hS3, hSW⟩ := hSW)); (try (obtain ⟨hS4, hSW⟩ := hSW)); (try (obtain ⟨hS5, hSW⟩ := hSW)); go_simp; (try with_reducible rfl); done)); (focus exact fun _ _ _ h => h); (focus assumption)) | (refine TR.skip _ (by simp only [List.getElem?_toArray, List.getElem?_cons_succ, List.getElem?_cons_zero]; rfl) ?_ ?_ ?_ ?_; (focus rfl); (focus exact fun _ _ _ h => h); (focus assumption))); simp only [Act.put, List.setIfInBounds_toArray, List.set_cons_zero, List.set_cons_succ])
          refine TR.done ?_
          clear hS g0 g1 g2 RB h1 h2 h3 h4 h5 h6
          have c1 := Arr.cell J7.out.hv (j := 1) rfl
          have c2 := Arr.cell J7.out.hv (j := 2) rfl
          have c3 := Arr.cell J7.out.hv (j := 3) rfl
          have c5 := Arr.cell J7.out.hv (j := 5) rfl
          have c6 := Arr.cell J7.out.hv (j := 6) rfl
          simp only [] at c1 c2 c3 c5 c6
          have HI := Lib.hid (show (Try.prog.info? 80).map (·.size) = some 8 by kernel_rfl)
          have HV7 := Lib.hid J7.out.hv
          have J8 := Lib.hid (J7.out.row HK.out.lt [z1, va, vb, vc, z2, ve, vf, vg])
          clear J7
          go_wp2_with (refine wpList_store_row rfl 80 (.tmp 11) (.tmp 163) rfl gv #[.int .u32 (z1 : Int), .int .u32 (va : Int), .int .u32 (vb : Int), .int .u32 (vc : Int), .int .u32 (z2 : Int), .int .u32 (ve : Int), .int .u32 (vf : Int), .int .u32 (vg : Int)] rfl rfl 80 _ HV7.out HI.out rfl (by simp [Value.oneCell']) ?_)
          go_roundw
          case rel => exact ⟨k + 1, hlt, by go_num, by rw [HN.out]; exact J8.out⟩
          case measure => simp [intOf]; omega
        · obtain rfl : k = 64 := by omega
          rw [show ((64 : Nat) : Int) = 64 from rfl]
          obtain ⟨v, hv⟩ : ∃ v, rnds ks (wSched l 64) s 64 = v := ⟨_, rfl⟩
          have HP := Lib.hid (show blockP ks s l = s.add v by rw [blockP, hv])
          rw [hv] at J
          have J1 := Lib.hid (show BlkJ w gk ks ((s.add v).list.take 0 ++ s.list.drop 0) A l gv wr (wSched l 64) v.list from J.out)
          clear J hv hk hlt
          go_wp2
          obtain ⟨wo, rfl⟩ : ∃ wo : World, wo = wr := ⟨_, rfl⟩
          go_loopw [165] (fun i wq => ∃ k : Nat, k ≤ 8 ∧ i = .int .i64 (k : Int) ∧ BlkJ w gk ks ((s.add v).list.take k ++ s.list.drop k) A l gv wq (wSched l 64) v.list) (fun i _ => 8 - (intOf i).toNat)
          case atStart => exact ⟨0, Nat.zero_le _, rfl, J1.out⟩
          case round =>
            clear J1
            obtain ⟨k, hk, rfl, hJ⟩ := hrel
            have J := Lib.hid hJ
            clear hJ
            by_cases hlt : k < 8
            · obtain ⟨x, y, hx, hy, hxy⟩ := add_at s v k hlt
              have d1 := dec_lt hlt
              have e1 := wrap_add x y
              have e2 := mod_add x y
              have HS := Lib.hid (mid_set (l := (s.add v).list) (r := s.list) rfl hxy)
              obtain ⟨z, hz⟩ : ∃ z, (x + y) % 4294967296 = z := ⟨_, rfl⟩
              rw [hz] at e1 e2 HS
              have c0 := Arr.cell J.out.i.hs (mid_at (l := (s.add v).list) rfl hx)
              have f0 := Arr.frozen J.out.i.hs k
              have c1 := Arr.cell J.out.hv hy
              have k0 : (0 : Int) ≤ (k : Int) := by omega
              have k1 : (k : Int) < 8 := by omega
              clear hx hy hxy hz hk
              go_wp2
              go_still_tail 8, (by kernel_rfl)
              go_wp2
              go_roundw
              case rel => exact ⟨k + 1, hlt, by go_num, by first | exact (J.out.setS HK.out.lt k z z rfl HS.out).drew | exact J.out.setS HK.out.lt k z z rfl HS.out⟩
              case measure => simp [intOf]; omega
            · obtain rfl : k = 8 := by omega
              have HS := Lib.hid (show Arr .u32 80 wr w.heap.size (s.add v).list from J.out.i.hs)
              have HR0 := Lib.hid J.out.i.hres
              have HB := Lib.hid J.out.i.hb
              have HI := Lib.hid (show (Try.prog.info? 80).map (·.size) = some 8 by kernel_rfl)
              obtain ⟨q, hq⟩ : ∃ q, s.add v = q := ⟨_, rfl⟩
              rw [hq] at HS HP
              clear J hq
              go_wp2_with (first
                | (refine wpList_load_row rfl 80 (.tmp 4) rfl w.heap.size rfl 80 _ (0, 0) _ HS.out Try.underlying80 rfl HI.out ?_)
                | (refine wpList_store_row rfl 80 (.tmp 6) (.tmp 177) rfl (w.heap.size + 1) (q.list.map fun x : Nat => Value.int .u32 (x : Int)).toArray rfl rfl 80 _ HR0.out HI.out rfl (by simp [Value.oneCell']) ?_))
              have HW := Lib.hid (setRow_heap wr (w.heap.size + 1) _ (q.list.map fun x : Nat => Value.int .u32 (x : Int)).toArray _ _ HR0.out)
              exact bodyPost_ret (results_cell_row Try.results49 _ _ (w.heap.size + 1) _ _ _ _ rfl HW.out Try.underlying80 rfl HI.out) rfl ⟨by rw [HP.out], below_setRow HB.out (Nat.le_succ _) _⟩
end Go.Proofs.Ytmaehbebpldpcaa
