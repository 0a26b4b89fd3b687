/-
  Digests: the walk of DigestSteps, part one.
-/
import Derived.Test.YtlbiinkidecfbaaShaP
namespace Go.Proofs.Ytlbiinkidecfbaa
open Go.RowKit
theorem wp_copy8 {P : Program} {o : Oper} {a : Act} {w : World} {K : Act → World → Prop} {Q : Exit → Act → World → Prop} (hgd : o.guard = none) (d s : Operand) (dT sT : TypeId)
    (ho : o.op = .call { callee := .builtin .copy, args := #[d, s], argTypes := #[dT, sT] }) (elem : TypeId) (hu : P.underlying dT = some (.slice elem)) (hsz : (P.info? elem).map (·.size) = some 1)
    (dp sp : Option Addr) (dLen dCap sLen sCap : Nat) (hd : a.eval d = .slice dp dLen dCap) (hs : a.eval s = .slice sp sLen sCap)
    (g off : Nat) (cur : List Value) (t : TypeId) (hg : w.heap[g]? = some (.cells cur.toArray t (0, 0))) (cs : List Value) (hn : cs.length = Nat.min sLen dLen)
    (hpos : 0 < cs.length → dp = some ⟨g, off, none⟩ ∧ ∃ ad, sp = some ad ∧ ∀ j v, cs[j]? = some v → w.cell? (ad.add j) = some v)
    (hfit : off + cs.length ≤ cur.length) (h1 : ∀ v ∈ cs, v.oneCell' = true) (B : Nat) (w0 : World) (hb : Below B w0 w) (hBg : B ≤ g)
    (h : ∀ w', Hid (w'.heap[g]? = some (.cells (splice cur off cs).toArray t (0, 0))) → Below B w0 w' → K (a.put o.dst (goInt cs.length)) w') : Oper.wp P o a w K Q := by
  have h2 := step_copy_splice (ops := #[]) (Q := Q) (E := True) hgd d s dT sT ho elem hu hsz dp sp dLen dCap sLen sCap hd hs g off cur t hg cs hn hpos hfit h1 B w0 hb hBg h
  rwa [if_pos (by simp [Region.wanted, hgd])] at h2
/-- What the first loop keeps. -/
structure StI (w : World) (gs : Nat) (s : St) (ad : Addr) (N : Nat) (L : List UInt8) (W : World) : Prop where
  hb : Below w.heap.size w W
  hL : BReads W gs (some ad) N L
  hs : Arr .u32 36 W gs s.list
  hz : w.heap.size ≤ gs
section
variable {w : World} {gs : Nat} {s s' : St} {ad : Addr} {N : Nat} {L : List UInt8} {W W' : World}
theorem StI.below (h : StI w gs s ad N L W) (hb : Below (gs + 1) W W') : StI w gs s ad N L W' :=
  ⟨h.hb.trans (hb.mono (by have := h.hz; omega)), Reads.below h.hL (hb.mono (by omega)), h.hs.keep (hb.block gs (by omega)), h.hz⟩
theorem StI.row (h : StI w gs s ad N L W) (s' : St) : StI w gs s' ad N L (W.setRow gs (s'.list.map fun x : Nat => Value.int .u32 (x : Int)).toArray) := by
  have hne : ∀ b, b < gs → (W.setRow gs (s'.list.map fun x : Nat => Value.int .u32 (x : Int)).toArray).heap[b]? = W.heap[b]? := fun b hb => setRow_other W gs b _ (by omega)
  exact ⟨below_setRow h.hb h.hz _, Reads.keep h.hL fun _ hp => World.cell?_of_block (hne _ hp), setRow_heap W gs _ _ _ _ h.hs, h.hz⟩
end
theorem chunk_cells {L : List UInt8} {N q : Nat} {W : World} {B : Nat} {g5 : Nat} (h : BReads W B (some ⟨g5, 0, none⟩) N L) (hq : q * 64 + 64 ≤ N) :
    ((chunkOf (L.map UInt8.toNat) q).map fun x : Nat => Value.int .u8 (x : Int)).length = 64 ∧ ∀ j v, ((chunkOf (L.map UInt8.toNat) q).map fun x : Nat => Value.int .u8 (x : Int))[j]? = some v → W.cell? ((⟨g5, q * 64, none⟩ : Addr).add j) = some v := by
  have hl := h.len
  refine ⟨by simp [chunkOf]; omega, fun j v hv => ?_⟩
  obtain ⟨ad', e, hb, hc⟩ := h.2 (by omega)
  injection e with e; subst e
  have e2 : (⟨g5, q * 64, none⟩ : Addr).add j = (⟨g5, 0, none⟩ : Addr).add (q * 64 + j) := by rw [← add_of_add, add_head]
  rw [e2]
  refine hc _ v ?_
  rw [← hv, chunkOf, List.getElem?_map, List.getElem?_map, List.getElem?_take]
  have hj : j < 64 := by
    have := (List.getElem?_eq_some_iff.1 hv).1
    simp [chunkOf] at this
    omega
  rw [if_pos hj, List.getElem?_drop, List.getElem?_map, Option.map_map]
  rfl
theorem splice_all {α : Type} (a b : List α) (h : a.length = b.length) : splice a 0 b = b := by
  simp [splice, ← h]
def wAt (s : St) (i : Nat) : List Nat := (s.list.flatMap be8).take i ++ List.replicate (32 - i) 0
def byteAt (x r : Nat) : Nat := if r = 0 then x/16777216%256 else if r = 1 then x/65536%256 else if r = 2 then x/256%256 else x%256
set_option maxRecDepth 10000 in
theorem wAt_step (s : St) (i : Nat) (hi : i < 32) : ∃ x, s.list[i / 4]? = some x ∧ (wAt s i).set i (byteAt x (i % 4)) = wAt s (i + 1) := by
  obtain ⟨a, b, c, d, e, f, g, h⟩ := s
  rcases (show i = 0 ∨ i = 1 ∨ i = 2 ∨ i = 3 ∨ i = 4 ∨ i = 5 ∨ i = 6 ∨ i = 7 ∨ i = 8 ∨ i = 9 ∨ i = 10 ∨ i = 11 ∨ i = 12 ∨ i = 13 ∨ i = 14 ∨ i = 15 ∨ i = 16 ∨ i = 17 ∨ i = 18 ∨ i = 19 ∨ i = 20 ∨ i = 21 ∨ i = 22 ∨ i = 23 ∨ i = 24 ∨ i = 25 ∨ i = 26 ∨ i = 27 ∨ i = 28 ∨ i = 29 ∨ i = 30 ∨ i = 31 by omega) with rfl | rfl | rfl | rfl | rfl | rfl | rfl | rfl | rfl | rfl | rfl | rfl | rfl | rfl | rfl | rfl | rfl | rfl | rfl | rfl | rfl | rfl | rfl | rfl | rfl | rfl | rfl | rfl | rfl | rfl | rfl | rfl <;> exact ⟨_, rfl, rfl⟩
theorem wAt_at (s : St) (i : Nat) (hi : i < 32) : ∃ x, (wAt s i)[i]? = some x := by
  have h : (wAt s i).length = 32 := by
    have : (s.list.flatMap be8).length = 32 := rfl
    simp [wAt, this]; omega
  exact ⟨_, List.getElem?_eq_getElem (by omega)⟩
/-- What the second loop keeps. -/
structure StJ (w : World) (gs gw : Nat) (s : St) (ds : List Nat) (W : World) : Prop where
  hb : Below w.heap.size w W
  hs : Arr .u32 36 W gs s.list
  hw : Arr .u8 29 W gw ds
  hz : w.heap.size ≤ gs
  hg : gs < gw
theorem StJ.set_ {w : World} {gs gw : Nat} {s : St} {ds ds' : List Nat} {W : World} (h : StJ w gs gw s ds W) (i : Nat) (z : Int) (x : Nat) (hz : z = (x : Int)) (hd : ds.set i x = ds') : StJ w gs gw s ds' (W.setCell ⟨gw, i, none⟩ (.int .u8 z)) := by
  have h1 := h.hz
  have h2 := h.hg
  exact ⟨h.hb.setCell (by simp; omega) _, h.hs.setOther (by simp; omega) _, hd ▸ h.hw.set_ i z x hz, h1, h2⟩
/-- What the third loop keeps. -/
structure StK (w : World) (gw base gh : Nat) (ds : List Nat) (l : List UInt8) (W : World) : Prop where
  hb : Below w.heap.size w W
  hd : Arr .u8 29 W gw ds
  hh : Hsh base gh l W
  h1 : w.heap.size ≤ base
  h2 : gw < base
theorem StK.step {w : World} {gw base gh : Nat} {ds : List Nat} {l l' : List UInt8} {W W' : World} (h : StK w gw base gh ds l W) (hb : Below base W W') (hh : Hsh base gh l' W') : StK w gw base gh ds l' W' :=
  ⟨h.hb.trans (hb.mono h.h1), h.hd.keep (hb.block gw h.h2), hh, h.h1, h.h2⟩
theorem StK.below {w : World} {gw base gh : Nat} {ds : List Nat} {l : List UInt8} {W W' : World} (h : StK w gw base gh ds l W) (hb : Below W.heap.size W W') : StK w gw base gh ds l W' :=
  h.step (hb.mono (Nat.le_trans h.hh.hb (Nat.le_of_lt h.hh.lt))) (h.hh.below hb)
theorem BReads.cutb {W : World} {B n m q cap : Nat} {A : Option Addr} {l : List UInt8} (h : BReads W B A n l) (hc : n ≤ cap) (h1 : m ≤ q) (h2 : q ≤ n) :
    BReads W B (if cap = m then A else Option.map (fun x => x.add m) A) (q - m) ((l.drop m).take (q - m)) := by
  have h3 := Reads.cut (k := m) (cap := cap) (show Reads W B 1 A n _ from h) (by omega) hc
  rw [Nat.mul_one] at h3
  have h4 := Reads.take h3 (k := q - m) (by omega)
  rw [← List.map_drop, ← List.map_take] at h4
  exact h4
theorem BReads.headb {W : World} {B n q : Nat} {A : Option Addr} {l : List UInt8} (h : BReads W B A n l) (h2 : q ≤ n) : BReads W B A q (l.take q) := by
  have h4 := Reads.take (show Reads W B 1 A n _ from h) h2
  rw [← List.map_take] at h4
  exact h4
theorem take_two (l : List UInt8) {m q : Nat} (h : m ≤ q) : l.take m ++ (l.drop m).take (q - m) = l.take q := by
  have := List.take_add (l := l) (i := m) (j := q - m)
  rw [show m + (q - m) = q by omega] at this
  exact this.symm
set_option maxRecDepth 100000 in
set_option maxHeartbeats 16000000 in
theorem steps_in (a0 : Option Addr) (n cap0 : Nat) (l : List UInt8) (a1 : Option Addr) (len1 cap1 : Nat) (zs : List Int) (w : World) (hr : BReads w w.heap.size a0 n l) (hnc : n ≤ cap0) (hcm : cap0 ≤ 9223372036854775807) (hn : n ≤ 2000)
    (hz : Reads w w.heap.size 1 a1 len1 (zs.map (Value.int .i64))) (hz1 : len1 ≤ 40) :
    Calls Try.prog 5 #[.slice a0 n cap0, .slice a1 len1 cap1] w fun e w' => e = .returned (.bool true) ∧ Below w.heap.size w w' := by
  have HR := Lib.hid hr
  have HZ := Lib.hid hz
  clear hr hz
  have g1 : decide ((2000 : Int) < (n : Int)) = false := by simp; omega
  have g2 : decide ((40 : Int) < (len1 : Int)) = false := by simp; omega
  have HI8 := Lib.hid (show (Try.prog.info? 36).map (·.size) = some 8 by kernel_rfl)
  have HI64 := Lib.hid (show (Try.prog.info? 42).map (·.size) = some 64 by kernel_rfl)
  go_enter Try.func5, Try.ntmps5
  go_wp2_with fail
  refine (lives_v w).mono ?_
  rintro e w1 ⟨rfl, hb1⟩
  have R1 := Lib.hid (Reads.below HR.out hb1)
  go_wp2_with fail
  refine (own_any w.heap.size a0 n cap0 l w1 R1.out hb1.size (by omega)).mono ?_
  rintro e w2 ⟨A2, c2, rfl, ho2, hb2⟩
  have PV := pad_v (n : Int) w2 (by omega) (by omega)
  simp only [Int.toNat_natCast] at PV
  obtain ⟨p, hp⟩ : ∃ p, (padL n).length = p := ⟨_, rfl⟩
  rw [hp] at PV
  have HP := Lib.hid hp
  have hpb : p ≤ 72 := by rw [← hp, pad_len]; unfold zerosN; omega
  have hp9 : 9 ≤ p := by rw [← hp, pad_len]; omega
  clear hp
  go_wp2_with fail
  refine PV.mono ?_
  clear PV
  rintro e w3 ⟨A3, c3, rfl, ho3, hb3⟩
  have O2 := Lib.hid (ho2.below hb3)
  have O3 := Lib.hid ho3.reads
  have B3 := Lib.hid (hb1.trans ((hb2.trans (hb3.mono hb2.size)).mono hb1.size))
  have Z12 := Lib.hid (show w1.heap.size ≤ w3.heap.size from Nat.le_trans hb2.size hb3.size)
  have Z01 := Lib.hid hb1.size
  clear ho2 ho3 hb1 hb2 hb3 R1
  obtain ⟨N, hN⟩ : ∃ N, n + p = N := ⟨_, rfl⟩
  obtain ⟨L, hL⟩ : ∃ L, l ++ toB (padL n) = L := ⟨_, rfl⟩
  have HN := Lib.hid hN
  have HL := Lib.hid hL
  have hN64 : N % 64 = 0 := by rw [← hN, ← HP.out]; exact whole_len n
  have hNb : N ≤ 2072 := by omega
  have hN0 : 0 < N := by omega
  have t1 : ((N : Int) % 64 != 0) = false := by rw [bne_eq_false_iff_eq]; omega
  clear hN hL
  go_wp2_with (first
    | (at_builtin
       refine wpList_app rfl (.tmp 26) (.tmp 29) rfl w1.heap.size A2 n c2 l rfl O2.out w3.heap.size A3 p c3 (toB (padL n)) rfl O3.out N L HN.out HL.out (by omega) Z12.out ?_
       intro A4 c4 w4 ho4 hg4 _
       have B4 := Lib.hid (below_app B3.out hg4 O2.out Z01.out (Nat.le_trans Z01.out Z12.out))
       have O4 := Lib.hid ho4
       clear ho4 hg4)
    | fail)
  refine (begin_v' w4).mono ?_
  rintro e w5 ⟨rfl, hb5⟩
  have O5 := Lib.hid (O4.out.below hb5)
  have B5 := Lib.hid (B4.out.trans (hb5.mono B4.out.size))
  obtain ⟨g5, hA5, hg5, hg5l⟩ := O4.out.addr hN0
  subst hA5
  have hc4 := O4.out.2
  clear O4 B4 hb5 O2 O3 B3
  have e8 := Lib.hid (heap_alloc_new w5 (.cells #[Value.int .u32 0, Value.int .u32 0, Value.int .u32 0, Value.int .u32 0, Value.int .u32 0, Value.int .u32 0, Value.int .u32 0, Value.int .u32 0] 36))
  have I0 := Lib.hid (show StI w w5.heap.size st8 ⟨g5, 0, none⟩ N L ((w5.alloc (.cells #[Value.int .u32 0, Value.int .u32 0, Value.int .u32 0, Value.int .u32 0, Value.int .u32 0, Value.int .u32 0, Value.int .u32 0, Value.int .u32 0] 36)).setRow w5.heap.size (st8.list.map fun x : Nat => Value.int .u32 (x : Int)).toArray) from
    ⟨below_setRow (B5.out.alloc B5.out.size _) B5.out.size _, Reads.keep (show Reads w5 w5.heap.size 1 _ N _ from O5.out.reads) fun p hp => World.cell?_of_block ((setRow_other _ _ _ _ (by omega)).trans (Below.heap_alloc w5 _ _ hp)), setRow_heap _ _ _ _ _ _ e8.out, B5.out.size⟩)
  go_wp2_with (first
    | (refine wpList_store_row rfl 36 (.tmp 6) (.tmp 35) rfl w5.heap.size (st8.list.map fun x : Nat => Value.int .u32 (x : Int)).toArray rfl rfl 36 #[Value.int .u32 0, Value.int .u32 0, Value.int .u32 0, Value.int .u32 0, Value.int .u32 0, Value.int .u32 0, Value.int .u32 0, Value.int .u32 0] e8.out HI8.out rfl (by simp [Value.oneCell']) ?_)
    | fail)
  clear e8
  generalize ((w5.alloc (.cells #[Value.int .u32 0, Value.int .u32 0, Value.int .u32 0, Value.int .u32 0, Value.int .u32 0, Value.int .u32 0, Value.int .u32 0, Value.int .u32 0] 36)).setRow w5.heap.size (st8.list.map fun x : Nat => Value.int .u32 (x : Int)).toArray) = w6 at *
  have Z5 := Lib.hid B5.out.size
  have G5 := Lib.hid (show g5 < w5.heap.size from (O5.out.base_le g5 rfl).2)
  clear B5 O5 hg5 hg5l
  generalize w5.heap.size = gs at *
  go_loopw [7] (fun i wr => ∃ k : Nat, k * 64 ≤ N ∧ i = .int .i64 ((k * 64 : Nat) : Int) ∧ StI w gs (stAt (L.map UInt8.toNat) (List.range k)) ⟨g5, 0, none⟩ N L wr) (fun i _ => N + 64 - (intOf i).toNat)
  case atStart => exact ⟨0, by omega, rfl, I0.out⟩
  case round =>
    clear I0
    obtain ⟨k, hk, rfl, hI⟩ := hrel
    have I := Lib.hid hI
    clear hI
    by_cases hlt : k * 64 < N
    · have hq64 : k * 64 + 64 ≤ N := by omega
      obtain ⟨s, hs⟩ : ∃ s, stAt (L.map UInt8.toNat) (List.range k) = s := ⟨_, rfl⟩
      have FS := Lib.hid (stAt_fit (L.map UInt8.toNat) (List.range k))
      rw [hs] at I FS
      have HS2 := Lib.hid (show stAt (L.map UInt8.toNat) (List.range (k + 1)) = blockP K64 s (chunkOf (L.map UInt8.toNat) k) by rw [List.range_succ, stAt_snoc, hs])
      have CC := Lib.hid (chunk_cells I.out.hL hq64)
      have CL := Lib.hid (chunkOf_lt L k)
      obtain ⟨cb, hcb⟩ : ∃ cb, chunkOf (L.map UInt8.toNat) k = cb := ⟨_, rfl⟩
      rw [hcb] at HS2 CC CL
      clear hs hcb
      obtain ⟨q, hq⟩ : ∃ q, k * 64 = q := ⟨_, rfl⟩
      rw [hq] at hlt hq64 CC ⊢
      have HQ := Lib.hid hq
      clear hq hk
      have d1 := dec_lt hlt
      have CN := Lib.hid (show cb.length = 64 by have := CC.out.1; simpa using this)
      have I1 := Lib.hid (I.out.below ((Below.refl (gs + 1) wr).alloc I.out.hs.lt (.cells #[Value.int .u8 0, Value.int .u8 0, Value.int .u8 0, Value.int .u8 0, Value.int .u8 0, Value.int .u8 0, Value.int .u8 0, Value.int .u8 0, Value.int .u8 0, Value.int .u8 0, Value.int .u8 0, Value.int .u8 0, Value.int .u8 0, Value.int .u8 0, Value.int .u8 0, Value.int .u8 0, Value.int .u8 0, Value.int .u8 0, Value.int .u8 0, Value.int .u8 0, Value.int .u8 0, Value.int .u8 0, Value.int .u8 0, Value.int .u8 0, Value.int .u8 0, Value.int .u8 0, Value.int .u8 0, Value.int .u8 0, Value.int .u8 0, Value.int .u8 0, Value.int .u8 0, Value.int .u8 0, Value.int .u8 0, Value.int .u8 0, Value.int .u8 0, Value.int .u8 0, Value.int .u8 0, Value.int .u8 0, Value.int .u8 0, Value.int .u8 0, Value.int .u8 0, Value.int .u8 0, Value.int .u8 0, Value.int .u8 0, Value.int .u8 0, Value.int .u8 0, Value.int .u8 0, Value.int .u8 0, Value.int .u8 0, Value.int .u8 0, Value.int .u8 0, Value.int .u8 0, Value.int .u8 0, Value.int .u8 0, Value.int .u8 0, Value.int .u8 0, Value.int .u8 0, Value.int .u8 0, Value.int .u8 0, Value.int .u8 0, Value.int .u8 0, Value.int .u8 0, Value.int .u8 0, Value.int .u8 0] 42)))
      have X1 := Lib.hid (heap_alloc_new wr (.cells #[Value.int .u8 0, Value.int .u8 0, Value.int .u8 0, Value.int .u8 0, Value.int .u8 0, Value.int .u8 0, Value.int .u8 0, Value.int .u8 0, Value.int .u8 0, Value.int .u8 0, Value.int .u8 0, Value.int .u8 0, Value.int .u8 0, Value.int .u8 0, Value.int .u8 0, Value.int .u8 0, Value.int .u8 0, Value.int .u8 0, Value.int .u8 0, Value.int .u8 0, Value.int .u8 0, Value.int .u8 0, Value.int .u8 0, Value.int .u8 0, Value.int .u8 0, Value.int .u8 0, Value.int .u8 0, Value.int .u8 0, Value.int .u8 0, Value.int .u8 0, Value.int .u8 0, Value.int .u8 0, Value.int .u8 0, Value.int .u8 0, Value.int .u8 0, Value.int .u8 0, Value.int .u8 0, Value.int .u8 0, Value.int .u8 0, Value.int .u8 0, Value.int .u8 0, Value.int .u8 0, Value.int .u8 0, Value.int .u8 0, Value.int .u8 0, Value.int .u8 0, Value.int .u8 0, Value.int .u8 0, Value.int .u8 0, Value.int .u8 0, Value.int .u8 0, Value.int .u8 0, Value.int .u8 0, Value.int .u8 0, Value.int .u8 0, Value.int .u8 0, Value.int .u8 0, Value.int .u8 0, Value.int .u8 0, Value.int .u8 0, Value.int .u8 0, Value.int .u8 0, Value.int .u8 0, Value.int .u8 0] 42))
      have zx : gs < wr.heap.size := I.out.hs.lt
      have CD := Lib.hid (fun j v (h : (cb.map fun x : Nat => Value.int .u8 (x : Int))[j]? = some v) => show (wr.alloc (.cells #[Value.int .u8 0, Value.int .u8 0, Value.int .u8 0, Value.int .u8 0, Value.int .u8 0, Value.int .u8 0, Value.int .u8 0, Value.int .u8 0, Value.int .u8 0, Value.int .u8 0, Value.int .u8 0, Value.int .u8 0, Value.int .u8 0, Value.int .u8 0, Value.int .u8 0, Value.int .u8 0, Value.int .u8 0, Value.int .u8 0, Value.int .u8 0, Value.int .u8 0, Value.int .u8 0, Value.int .u8 0, Value.int .u8 0, Value.int .u8 0, Value.int .u8 0, Value.int .u8 0, Value.int .u8 0, Value.int .u8 0, Value.int .u8 0, Value.int .u8 0, Value.int .u8 0, Value.int .u8 0, Value.int .u8 0, Value.int .u8 0, Value.int .u8 0, Value.int .u8 0, Value.int .u8 0, Value.int .u8 0, Value.int .u8 0, Value.int .u8 0, Value.int .u8 0, Value.int .u8 0, Value.int .u8 0, Value.int .u8 0, Value.int .u8 0, Value.int .u8 0, Value.int .u8 0, Value.int .u8 0, Value.int .u8 0, Value.int .u8 0, Value.int .u8 0, Value.int .u8 0, Value.int .u8 0, Value.int .u8 0, Value.int .u8 0, Value.int .u8 0, Value.int .u8 0, Value.int .u8 0, Value.int .u8 0, Value.int .u8 0, Value.int .u8 0, Value.int .u8 0, Value.int .u8 0, Value.int .u8 0] 42)).cell? ((⟨g5, q, none⟩ : Addr).add j) = some v from
        (World.cell?_alloc_lt wr _ _ (by rw [block_of_add]; have := G5.out; show g5 < wr.heap.size; omega)).trans (CC.out.2 j v h))
      have BX := Lib.hid (Below.refl (gs + 1) (wr.alloc (.cells #[Value.int .u8 0, Value.int .u8 0, Value.int .u8 0, Value.int .u8 0, Value.int .u8 0, Value.int .u8 0, Value.int .u8 0, Value.int .u8 0, Value.int .u8 0, Value.int .u8 0, Value.int .u8 0, Value.int .u8 0, Value.int .u8 0, Value.int .u8 0, Value.int .u8 0, Value.int .u8 0, Value.int .u8 0, Value.int .u8 0, Value.int .u8 0, Value.int .u8 0, Value.int .u8 0, Value.int .u8 0, Value.int .u8 0, Value.int .u8 0, Value.int .u8 0, Value.int .u8 0, Value.int .u8 0, Value.int .u8 0, Value.int .u8 0, Value.int .u8 0, Value.int .u8 0, Value.int .u8 0, Value.int .u8 0, Value.int .u8 0, Value.int .u8 0, Value.int .u8 0, Value.int .u8 0, Value.int .u8 0, Value.int .u8 0, Value.int .u8 0, Value.int .u8 0, Value.int .u8 0, Value.int .u8 0, Value.int .u8 0, Value.int .u8 0, Value.int .u8 0, Value.int .u8 0, Value.int .u8 0, Value.int .u8 0, Value.int .u8 0, Value.int .u8 0, Value.int .u8 0, Value.int .u8 0, Value.int .u8 0, Value.int .u8 0, Value.int .u8 0, Value.int .u8 0, Value.int .u8 0, Value.int .u8 0, Value.int .u8 0, Value.int .u8 0, Value.int .u8 0, Value.int .u8 0, Value.int .u8 0] 42)))
      clear I CC
      have u0 : (0 : Int) ≤ (q : Int) := by omega
      have u1 : q ≤ N := by omega
      have u2 : IntKind.i64.wrap ((q : Int) + 64) = (q : Int) + 64 := IntWalk.i64_in _ (by omega)
      have u3 : ((q : Int) + 64).toNat = q + 64 := by omega
      have u4 : (q : Int) + 64 ≤ (c4 : Int) := by omega
      have u5 : (q : Int) ≤ (q : Int) + 64 := by omega
      have u6 : q + 64 ≤ c4 := by omega
      have u7 : q ≤ q + 64 := by omega
      have u8 : ¬ (c4 = q) := by omega
      have u9 : q + 64 - q = 64 := by omega
      go_wp2
      generalize wr.heap.size = gx at *
      generalize wr.alloc (.cells #[Value.int .u8 0, Value.int .u8 0, Value.int .u8 0, Value.int .u8 0, Value.int .u8 0, Value.int .u8 0, Value.int .u8 0, Value.int .u8 0, Value.int .u8 0, Value.int .u8 0, Value.int .u8 0, Value.int .u8 0, Value.int .u8 0, Value.int .u8 0, Value.int .u8 0, Value.int .u8 0, Value.int .u8 0, Value.int .u8 0, Value.int .u8 0, Value.int .u8 0, Value.int .u8 0, Value.int .u8 0, Value.int .u8 0, Value.int .u8 0, Value.int .u8 0, Value.int .u8 0, Value.int .u8 0, Value.int .u8 0, Value.int .u8 0, Value.int .u8 0, Value.int .u8 0, Value.int .u8 0, Value.int .u8 0, Value.int .u8 0, Value.int .u8 0, Value.int .u8 0, Value.int .u8 0, Value.int .u8 0, Value.int .u8 0, Value.int .u8 0, Value.int .u8 0, Value.int .u8 0, Value.int .u8 0, Value.int .u8 0, Value.int .u8 0, Value.int .u8 0, Value.int .u8 0, Value.int .u8 0, Value.int .u8 0, Value.int .u8 0, Value.int .u8 0, Value.int .u8 0, Value.int .u8 0, Value.int .u8 0, Value.int .u8 0, Value.int .u8 0, Value.int .u8 0, Value.int .u8 0, Value.int .u8 0, Value.int .u8 0, Value.int .u8 0, Value.int .u8 0, Value.int .u8 0, Value.int .u8 0] 42) = wx at *
      refine wp_region_tree (SK.one 0 false <| .one 1 false <| .one 2 false <| .one 3 false <| .one 4 false <| .one 5 false <| .one 6 true .done) (fun V => Below 0 V V ∧ Below 0 V V) (by kernel_rfl) (by kernel_rfl) (by kernel_rfl) (by kernel_rfl) ?_
      have I2 := Lib.hid (I1.out.below ((Below.refl (gs + 1) wx).drew))
      have X2 := Lib.hid (show wx.drew.heap[gx]? = some (.cells (List.replicate 64 (Value.int .u8 0)).toArray 42 (0, 0)) from X1.out)
      have CE := Lib.hid (fun j v (h : (cb.map fun x : Nat => Value.int .u8 (x : Int))[j]? = some v) => show wx.drew.cell? ((⟨g5, q, none⟩ : Addr).add j) = some v from CD.out j v h)
      clear I1 X1 CD BX
      generalize wx.drew = wy at *
      have hS : Below 0 wy wy ∧ Below 0 wy wy := ⟨Below.refl _ _, Below.refl _ _⟩
      ((first | (refine TR.val2 (v := ?_) _ (by simp only [List.getElem?_toArray, List.getElem?_cons_zero]; rfl) ?_ ?_ ?_ ?_ ?_; rotate_left; (focus rfl); (focus (intro W hSW; (try dsimp only at hSW); (try (obtain ⟨hS1, hSW⟩ := hSW)); (try (obtain ⟨hS2, hSW⟩ := hSW)); (try (obtain ⟨hS3, hSW⟩ := hSW)); (try (obtain ⟨hS4, hSW⟩ := hSW)); (try (obtain ⟨hS5, hSW⟩ := hSW)); go_simp; (try with_reducible rfl); done)); (focus exact fun _ _ _ h => h); (focus assumption)) | (refine TR.skip _ (by simp only [List.getElem?_toArray, List.getElem?_cons_zero]; rfl) ?_ ?_ ?_ ?_; (focus rfl); (focus exact fun _ _ _ h => h); (focus assumption))); simp only [Act.put, List.setIfInBounds_toArray, List.set_cons_zero, List.set_cons_succ])
      iterate 5 ((first | (refine TR.val2 (v := ?_) _ (by simp only [List.getElem?_toArray, List.getElem?_cons_succ, List.getElem?_cons_zero]; rfl) ?_ ?_ ?_ ?_ ?_; rotate_left; (focus rfl); (focus (intro W hSW; (try dsimp only at hSW); (try (obtain ⟨hS1, hSW⟩ := hSW)); (try (obtain ⟨hS2, hSW⟩ := hSW)); (try (obtain ⟨hS3, hSW⟩ := hSW)); (try (obtain ⟨hS4, hSW⟩ := hSW)); (try (obtain ⟨hS5, hSW⟩ := hSW)); go_simp; (try with_reducible rfl); done)); (focus exact fun _ _ _ h => h); (focus assumption)) | (refine TR.skip _ (by simp only [List.getElem?_toArray, List.getElem?_cons_succ, List.getElem?_cons_zero]; rfl) ?_ ?_ ?_ ?_; (focus rfl); (focus exact fun _ _ _ h => h); (focus assumption))); simp only [Act.put, List.setIfInBounds_toArray, List.set_cons_zero, List.set_cons_succ])
      refine TR.eff _ (by simp only [List.getElem?_toArray, List.getElem?_cons_succ, List.getElem?_cons_zero]; rfl) (by rfl) (fun K hK => ?_)
      refine wp_copy8 rfl (.tmp 42) (.tmp 47) 22 22 rfl 5 Try.underlying22 (by kernel_rfl) (some ⟨gx, 0, none⟩) (some ⟨g5, q, none⟩) 64 64 64 (c4 - q) rfl rfl gx 0 (List.replicate 64 (Value.int .u8 0)) 42 X2.out (cb.map fun x : Nat => Value.int .u8 (x : Int)) (by simp [CN.out]) (fun _ => ⟨rfl, _, rfl, CE.out⟩) (by simp [CN.out])
        (fun v hv => by obtain ⟨x, _, rfl⟩ := List.mem_map.1 hv; rfl) gx wy (Below.refl _ _) (Nat.le_refl _) ?_
      rw [splice_all _ _ (by simp [CN.out])]
      intro wz hX hbz
      have I3 := Lib.hid (I2.out.below (hbz.mono zx))
      have X3 := Lib.hid hX.out
      refine hK.out _ _ ⟨Below.refl _ _, Below.refl _ _⟩ ?_
      clear hK hbz hX I2 X2 CE hS
      refine TR.done ?_
      clear u0 u1 u2 u3 u4 u5 u6 u7 u8 u9
      have HSZ := Lib.hid (show (cb.map fun x : Nat => Value.int .u8 (x : Int)).toArray.size = 64 by simp [CN.out])
      go_wp2_with (first
        | (refine wpList_load_row rfl 36 (.tmp 6) rfl gs rfl 36 #[.int .u32 (s.a : Int), .int .u32 (s.b : Int), .int .u32 (s.c : Int), .int .u32 (s.d : Int), .int .u32 (s.e : Int), .int .u32 (s.f : Int), .int .u32 (s.g : Int), .int .u32 (s.h : Int)] (0, 0) _ I3.out.hs Try.underlying36 rfl HI8.out ?_)
        | (refine wpList_load_row rfl 42 (.tmp 8) rfl gx rfl 42 (cb.map fun x : Nat => Value.int .u8 (x : Int)).toArray (0, 0) _ X3.out Try.underlying42 rfl (HI64.out.trans (by rw [HSZ.out])) ?_)
        | fail)
      refine (block17_v s cb wz FS.out CN.out CL.out).mono ?_
      rintro e wb ⟨rfl, hb⟩
      have I4 := Lib.hid (I3.out.below (hb.mono I3.out.hs.lt))
      obtain ⟨s', hs'⟩ : ∃ s', blockP K64 s cb = s' := ⟨_, rfl⟩
      rw [hs'] at HS2
      rw [hs']
      have I5 := Lib.hid (I4.out.row s')
      clear hb hs' X3
      go_wp2_with (first
        | (refine wpList_store_row rfl 36 (.tmp 6) (.tmp 51) rfl gs (s'.list.map fun x : Nat => Value.int .u32 (x : Int)).toArray rfl rfl 36 _ I4.out.hs HI8.out rfl (by simp [Value.oneCell']) ?_)
        | fail)
      go_roundw
      case rel => exact ⟨k + 1, by rw [Nat.succ_mul, HQ.out]; exact hq64, by rw [Nat.succ_mul, HQ.out]; go_num, by rw [HS2.out]; exact I5.out⟩
      case measure => simp [intOf]; omega
    · obtain ⟨q, hq⟩ : ∃ q, k * 64 = q := ⟨_, rfl⟩
      have hqN : q = N := by omega
      have HST := Lib.hid (show stAt (L.map UInt8.toNat) (List.range k) = shaS (l.map UInt8.toNat) by
        have hLm : L.map UInt8.toNat = l.map UInt8.toNat ++ padL (l.map UInt8.toNat).length := by
          rw [← HL.out, List.map_append, toB_back (pad_lt n), List.length_map, BReads.len HR.out]
        have hLl : (L.map UInt8.toNat).length = N := by rw [List.length_map]; exact BReads.len I.out.hL
        rw [shaS, ← hLm, hLl, show k = N / 64 by omega]
        exact chunks_fold (N / 64) st8 _)
      rw [HST.out] at I
      rw [hq, hqN]
      have d1 := dec_nlt (Nat.lt_irrefl N)
      obtain ⟨s, hs⟩ : ∃ s, shaS (l.map UInt8.toNat) = s := ⟨_, rfl⟩
      have HSH := Lib.hid (show sha (l.map UInt8.toNat) = s.list.flatMap be8 by rw [sha, hs])
      rw [hs] at I
      clear hs HST hq hqN hlt hk t1
      go_wp2
      have J0 := Lib.hid (show StJ w gs wr.heap.size s (wAt s 0) (wr.alloc (.cells #[Value.int .u8 0, Value.int .u8 0, Value.int .u8 0, Value.int .u8 0, Value.int .u8 0, Value.int .u8 0, Value.int .u8 0, Value.int .u8 0, Value.int .u8 0, Value.int .u8 0, Value.int .u8 0, Value.int .u8 0, Value.int .u8 0, Value.int .u8 0, Value.int .u8 0, Value.int .u8 0, Value.int .u8 0, Value.int .u8 0, Value.int .u8 0, Value.int .u8 0, Value.int .u8 0, Value.int .u8 0, Value.int .u8 0, Value.int .u8 0, Value.int .u8 0, Value.int .u8 0, Value.int .u8 0, Value.int .u8 0, Value.int .u8 0, Value.int .u8 0, Value.int .u8 0, Value.int .u8 0] 29)) from
        ⟨I.out.hb.alloc (Nat.le_trans I.out.hz (Nat.le_of_lt I.out.hs.lt)) _, I.out.hs.alloc _, Arr.new wr _ _ rfl, I.out.hz, I.out.hs.lt⟩)
      clear I
      generalize wr.alloc (.cells #[Value.int .u8 0, Value.int .u8 0, Value.int .u8 0, Value.int .u8 0, Value.int .u8 0, Value.int .u8 0, Value.int .u8 0, Value.int .u8 0, Value.int .u8 0, Value.int .u8 0, Value.int .u8 0, Value.int .u8 0, Value.int .u8 0, Value.int .u8 0, Value.int .u8 0, Value.int .u8 0, Value.int .u8 0, Value.int .u8 0, Value.int .u8 0, Value.int .u8 0, Value.int .u8 0, Value.int .u8 0, Value.int .u8 0, Value.int .u8 0, Value.int .u8 0, Value.int .u8 0, Value.int .u8 0, Value.int .u8 0, Value.int .u8 0, Value.int .u8 0, Value.int .u8 0, Value.int .u8 0] 29) = wq at *
      generalize wr.heap.size = gw at *
      clear wr
      go_loopw [10] (fun i wr => ∃ k : Nat, k ≤ 32 ∧ i = .int .i64 (k : Int) ∧ StJ w gs gw s (wAt s k) wr) (fun i _ => 32 - (intOf i).toNat)
      case atStart => exact ⟨0, Nat.zero_le _, rfl, J0.out⟩
      case round =>
        clear J0
        obtain ⟨i, hi, rfl, hJ⟩ := hrel
        have J := Lib.hid hJ
        clear hJ
        by_cases hlt : i < 32
        · have d1 := dec_lt hlt
          obtain ⟨x, hx, hxs⟩ := wAt_step s i hlt
          obtain ⟨y, hy⟩ := wAt_at s i hlt
          have c0 := Arr.cell J.out.hs hx
          have c1 := Arr.cell J.out.hw hy
          have f1 := Arr.frozen J.out.hw i
          have HXS := Lib.hid hxs
          clear hx hxs hy
          obtain ⟨j, hj⟩ : ∃ j, i / 4 = j := ⟨_, rfl⟩
          rw [hj] at c0
          have e1 : (i : Int) / 4 = (j : Int) := by omega
          have j0 : (0 : Int) ≤ (j : Int) := by omega
          have j1 : (j : Int) < 8 := by omega
          have i0 : (0 : Int) ≤ (i : Int) := by omega
          have i1 : (i : Int) < 32 := by omega
          rcases (show i % 4 = 0 ∨ i % 4 = 1 ∨ i % 4 = 2 ∨ i % 4 = 3 by omega) with hr | hr | hr | hr
          · have e2 : (i : Int) % 4 = 0 := by omega
            have HS := Lib.hid (show (wAt s i).set i (x/16777216%256) = wAt s (i + 1) by have := HXS.out; rw [hr] at this; exact this)
            clear hj hr hi
            go_wp2
            go_roundw
            case rel => exact ⟨i + 1, hlt, by go_num, J.out.set_ i _ _ (by omega) HS.out⟩
            case measure => simp [intOf]; omega
          · have e2 : (i : Int) % 4 = 1 := by omega
            have HS := Lib.hid (show (wAt s i).set i (x/65536%256) = wAt s (i + 1) by have := HXS.out; rw [hr] at this; exact this)
            clear hj hr hi
            go_wp2
            go_roundw
            case rel => exact ⟨i + 1, hlt, by go_num, J.out.set_ i _ _ (by omega) HS.out⟩
            case measure => simp [intOf]; omega
          · have e2 : (i : Int) % 4 = 2 := by omega
            have HS := Lib.hid (show (wAt s i).set i (x/256%256) = wAt s (i + 1) by have := HXS.out; rw [hr] at this; exact this)
            clear hj hr hi
            go_wp2
            go_roundw
            case rel => exact ⟨i + 1, hlt, by go_num, J.out.set_ i _ _ (by omega) HS.out⟩
            case measure => simp [intOf]; omega
          · have e2 : (i : Int) % 4 = 3 := by omega
            have HS := Lib.hid (show (wAt s i).set i (x%256) = wAt s (i + 1) by have := HXS.out; rw [hr] at this; exact this)
            clear hj hr hi
            go_wp2
            go_roundw
            case rel => exact ⟨i + 1, hlt, by go_num, J.out.set_ i _ _ (by omega) HS.out⟩
            case measure => simp [intOf]; omega
        · obtain rfl : i = 32 := by omega
          rw [show ((32 : Nat) : Int) = 32 from rfl]
          have B := Lib.hid J.out.hb
          have D := Lib.hid (show Arr .u8 29 wr gw (sha (l.map UInt8.toNat)) by rw [HSH.out]; exact J.out.hw)
          have GW := Lib.hid (show w.heap.size < gw from Nat.lt_of_le_of_lt J.out.hz J.out.hg)
          clear J hi hlt
          obtain ⟨ds, hds⟩ : ∃ ds, sha (l.map UInt8.toNat) = ds := ⟨_, rfl⟩
          have HDS := Lib.hid hds
          have HDL := Lib.hid (show ds.length = 32 by rw [← hds]; rfl)
          rw [hds] at D
          clear hds
          have HI9 := Lib.hid (show (Try.prog.info? 29).map (·.size) = some 32 by kernel_rfl)
          have HSZ := Lib.hid (show (ds.map fun x : Nat => Value.int .u8 (x : Int)).toArray.size = 32 by simp [HDL.out])
          have R := Lib.hid (Reads.below HR.out B.out)
          have hneq := neq_dig ds HDL.out
          go_wp2
          refine wp_region_tree (SK.one 0 false <| .one 3 false <| .one 1 true <| .one 2 true <| .one 4 false .done) (fun V => Below 0 V V ∧ V.heap[gw]? = some (.cells (ds.map fun x : Nat => Value.int .u8 (x : Int)).toArray 29 (0, 0))) (by kernel_rfl) (by kernel_rfl) (by kernel_rfl) (by kernel_rfl) ?_
          have B1 := Lib.hid B.out.drew
          have R1 := Lib.hid (Reads.drew R.out)
          have hS : Below 0 wr.drew wr.drew ∧ wr.drew.heap[gw]? = some (.cells (ds.map fun x : Nat => Value.int .u8 (x : Int)).toArray 29 (0, 0)) := ⟨Below.refl _ _, D.out⟩
          have D1 := Lib.hid (show Arr .u8 29 wr.drew gw ds from D.out)
          clear B R D
          generalize wr.drew = V0 at *
          ((first | (refine TR.val2 (v := ?_) _ (by simp only [List.getElem?_toArray, List.getElem?_cons_zero]; rfl) ?_ ?_ ?_ ?_ ?_; rotate_left; (focus rfl); (focus (intro W hSW; (try dsimp only at hSW); (try (obtain ⟨hS1, hSW⟩ := hSW)); (try (obtain ⟨hS2, hSW⟩ := hSW)); (try (obtain ⟨hS3, hSW⟩ := hSW)); (try (obtain ⟨hS4, hSW⟩ := hSW)); (try (obtain ⟨hS5, hSW⟩ := hSW)); go_simp; (try with_reducible rfl); done)); (focus exact fun _ _ _ h => h); (focus assumption)) | (refine TR.skip _ (by simp only [List.getElem?_toArray, List.getElem?_cons_zero]; rfl) ?_ ?_ ?_ ?_; (focus rfl); (focus exact fun _ _ _ h => h); (focus assumption))); simp only [Act.put, List.setIfInBounds_toArray, List.set_cons_zero, List.set_cons_succ])
          refine TR.val2 (v := .agg (ds.map fun x : Nat => Value.int .u8 (x : Int)).toArray) _ (by simp only [List.getElem?_toArray, List.getElem?_cons_succ, List.getElem?_cons_zero]; rfl) ?_ ?_ ?_ ?_ ?_
          (focus rfl)
          (focus exact fun V hV => exec_load_row 29 (.tmp 9) rfl gw rfl 29 _ (0, 0) _ hV.2 Try.underlying29 rfl (HI9.out.trans (by rw [HSZ.out])))
          (focus exact fun _ _ _ h => h)
          (focus exact hS)
          simp only [Act.put, List.setIfInBounds_toArray, List.set_cons_zero, List.set_cons_succ]
          refine TR.eff _ (by simp only [List.getElem?_toArray, List.getElem?_cons_succ, List.getElem?_cons_zero]; rfl) (by rfl) (fun K hK => ?_); go_simp
          refine (own_any w.heap.size a0 n cap0 l V0 R1.out B1.out.size (by omega)).mono ?_
          rintro e V1 ⟨Ax, cx, rfl, hox, hbx⟩
          have B2 := Lib.hid (B1.out.trans (hbx.mono B1.out.size))
          have D2 := Lib.hid (D1.out.below hbx)
          have OX := Lib.hid hox.reads
          refine hK.out _ _ ⟨Below.refl _ _, D2.out⟩ ?_
          clear hK hbx hox B1 D1 R1 hS
          (try simp only [Act.put, List.setIfInBounds_toArray, List.set_cons_zero, List.set_cons_succ])
          refine TR.eff _ (by simp only [List.getElem?_toArray, List.getElem?_cons_succ, List.getElem?_cons_zero]; rfl) (by rfl) (fun K hK => ?_); go_simp
          have OF := of_v Ax n cx l V1 OX.out (by omega)
          rw [HDS.out] at OF
          refine OF.mono ?_
          clear OF
          rintro e V2 ⟨rfl, hbx⟩
          have B3 := Lib.hid (B2.out.trans (hbx.mono B2.out.size))
          have D3 := Lib.hid (D2.out.below hbx)
          have hS : Below 0 V2 V2 ∧ V2.heap[gw]? = some (.cells (ds.map fun x : Nat => Value.int .u8 (x : Int)).toArray 29 (0, 0)) := ⟨Below.refl _ _, D3.out⟩
          refine hK.out _ _ hS ?_
          clear hK hbx B2 D2 OX
          (try simp only [Act.put, List.setIfInBounds_toArray, List.set_cons_zero, List.set_cons_succ])
          iterate 1 ((first | (refine TR.val2 (v := ?_) _ (by simp only [List.getElem?_toArray, List.getElem?_cons_succ, List.getElem?_cons_zero]; rfl) ?_ ?_ ?_ ?_ ?_; rotate_left; (focus rfl); (focus (intro W hSW; (try dsimp only at hSW); (try (obtain ⟨hS1, hSW⟩ := hSW)); (try (obtain ⟨hS2, hSW⟩ := hSW)); (try (obtain ⟨hS3, hSW⟩ := hSW)); (try (obtain ⟨hS4, hSW⟩ := hSW)); (try (obtain ⟨hS5, hSW⟩ := hSW)); go_simp; (try with_reducible rfl); done)); (focus exact fun _ _ _ h => h); (focus assumption)) | (refine TR.skip _ (by simp only [List.getElem?_toArray, List.getElem?_cons_succ, List.getElem?_cons_zero]; rfl) ?_ ?_ ?_ ?_; (focus rfl); (focus exact fun _ _ _ h => h); (focus assumption))); simp only [Act.put, List.setIfInBounds_toArray, List.set_cons_zero, List.set_cons_succ])
          refine TR.done ?_
          clear hS
          go_wp2_with fail
          refine (hnew_v V2).mono ?_
          rintro e V3 ⟨rfl, hh, hb3⟩
          have K3 := Lib.hid (show StK w gw V2.heap.size V2.heap.size ds (l.take 0) V3 from ⟨B3.out.trans (hb3.mono B3.out.size), D3.out.below hb3, hh, B3.out.size, D3.out.lt⟩)
          clear hh hb3 B3 D3
          generalize V2.heap.size = gh at *
          go_wp2
          clear HI64
          go_loopw [12, 13] (fun z i wr => ∃ (j m : Nat), j ≤ len1 ∧ m ≤ n ∧ i = .int .i64 (j : Int) ∧ z = .int .i64 (m : Int) ∧ StK w gw gh gh ds (l.take m) wr) (fun _ i _ => len1 - (intOf i).toNat)
          case atStart => exact ⟨0, 0, Nat.zero_le _, Nat.zero_le _, rfl, rfl, K3.out⟩
          case round =>
            clear K3 hneq
            obtain ⟨j, m, hj, hm, rfl, rfl, hK0⟩ := hrel
            have K := Lib.hid hK0
            clear hK0
            by_cases hlt : j < len1
            · have d1 := dec_lt hlt
              obtain ⟨ad, u, rfl, had, hx, hc⟩ := Reads.at_ (Reads.below HZ.out K.out.hb) hlt
              obtain ⟨z, rfl⟩ : ∃ z : Int, u = .int .i64 z := by
                rw [List.getElem?_map] at hx
                cases hq : zs[j]? with
                | none => rw [hq] at hx; cases hx
                | some z => rw [hq] at hx; injection hx with hx; exact ⟨z, hx.symm⟩
              clear hx
              have m0 : (0 : Int) ≤ (m : Int) := by omega
              have m1 : (m : Int) ≤ (n : Int) := by omega
              have w1' : IntKind.i64.wrap ((n : Int) - (m : Int)) = (n : Int) - (m : Int) := IntWalk.i64_in _ (by omega)
              have w2' : IntKind.i64.wrap ((n : Int) - (m : Int) + 1) = (n : Int) - (m : Int) + 1 := IntWalk.i64_in _ (by omega)
              go_wp2_with fail
              refine (pick_v z ((n : Int) - (m : Int) + 1) _ (by omega) (by omega)).mono ?_
              rintro e _ ⟨k, rfl, hk, rfl⟩
              clear w1' w2' hc
              obtain ⟨q, hq⟩ : ∃ q, m + k = q := ⟨_, rfl⟩
              have hmq : m ≤ q := by omega
              have hqn : q ≤ n := by omega
              have hkq : (m : Int) + (k : Int) = (q : Int) := by omega
              have HTT := Lib.hid (take_two l hmq)
              have HTL := Lib.hid (show (l.take q).length = q by rw [List.length_take, BReads.len HR.out]; omega)
              have HML := Lib.hid (show (l.take m).length = m by rw [List.length_take, BReads.len HR.out]; omega)
              clear hq hk had
              obtain ⟨lc, hlc⟩ : ∃ lc, (l.drop m).take (q - m) = lc := ⟨_, rfl⟩
              have HLC := Lib.hid hlc
              rw [hlc] at HTT
              clear hlc
              obtain ⟨lq, hlq⟩ : ∃ lq, l.take q = lq := ⟨_, rfl⟩
              rw [hlq] at HTT HTL
              have HLQ := Lib.hid hlq
              obtain ⟨A2', hif⟩ : ∃ A2', (if cap0 = m then a0 else Option.map (fun x => x.add m) a0) = A2' := ⟨_, rfl⟩
              have HIF := Lib.hid hif
              obtain ⟨dq, hdq⟩ : ∃ dq, sha (lq.map UInt8.toNat) = dq := ⟨_, rfl⟩
              have HDQ := Lib.hid hdq
              have hneq := neq_dig dq (by rw [← hdq]; rfl)
              clear hlq hdq
              have s1 : (m : Int) ≤ (q : Int) := by omega
              have s2 : (q : Int) ≤ (cap0 : Int) := by omega
              have s3 : m ≤ cap0 := by omega
              have s4 : q ≤ cap0 := by omega
              have s5 : (0 : Int) ≤ (q : Int) := by omega
              go_wp2
              refine wp_region_tree (SK.one 0 false <| .one 1 false <| .one 2 false <| .one 3 false <| .one 4 false <| .one 5 true <| .one 6 true <| .one 7 false <| .one 8 false <| .one 9 false <| .one 11 false <| .one 12 false <| .one 13 false <| .one 10 true <| .one 14 true <| .one 15 true <| .one 16 false <| .one 17 false <| .one 18 false <| .one 19 false <| .one 21 false <| .one 20 true <| .one 22 false <| .one 23 false .done) (fun V => Below 0 V V ∧ Below 0 V V) (by kernel_rfl) (by kernel_rfl) (by kernel_rfl) (by kernel_rfl) ?_
              have K1 := Lib.hid (K.out.below ((Below.refl _ _).drew))
              have hS : Below 0 wr.drew wr.drew ∧ Below 0 wr.drew wr.drew := ⟨Below.refl _ _, Below.refl _ _⟩
              clear K
              generalize wr.drew = V0 at *
              ((first | (refine TR.val2 (v := ?_) _ (by simp only [List.getElem?_toArray, List.getElem?_cons_zero]; rfl) ?_ ?_ ?_ ?_ ?_; rotate_left; (focus rfl); (focus (intro W hSW; (try dsimp only at hSW); (try (obtain ⟨hS1, hSW⟩ := hSW)); (try (obtain ⟨hS2, hSW⟩ := hSW)); (try (obtain ⟨hS3, hSW⟩ := hSW)); (try (obtain ⟨hS4, hSW⟩ := hSW)); (try (obtain ⟨hS5, hSW⟩ := hSW)); go_simp; (try with_reducible rfl); done)); (focus exact fun _ _ _ h => h); (focus assumption)) | (refine TR.skip _ (by simp only [List.getElem?_toArray, List.getElem?_cons_zero]; rfl) ?_ ?_ ?_ ?_; (focus rfl); (focus exact fun _ _ _ h => h); (focus assumption))); simp only [Act.put, List.setIfInBounds_toArray, List.set_cons_zero, List.set_cons_succ])
              iterate 4 ((first | (refine TR.val2 (v := ?_) _ (by simp only [List.getElem?_toArray, List.getElem?_cons_succ, List.getElem?_cons_zero]; rfl) ?_ ?_ ?_ ?_ ?_; rotate_left; (focus rfl); (focus (intro W hSW; (try dsimp only at hSW); (try (obtain ⟨hS1, hSW⟩ := hSW)); (try (obtain ⟨hS2, hSW⟩ := hSW)); (try (obtain ⟨hS3, hSW⟩ := hSW)); (try (obtain ⟨hS4, hSW⟩ := hSW)); (try (obtain ⟨hS5, hSW⟩ := hSW)); go_simp; (try with_reducible rfl); done)); (focus exact fun _ _ _ h => h); (focus assumption)) | (refine TR.skip _ (by simp only [List.getElem?_toArray, List.getElem?_cons_succ, List.getElem?_cons_zero]; rfl) ?_ ?_ ?_ ?_; (focus rfl); (focus exact fun _ _ _ h => h); (focus assumption))); simp only [Act.put, List.setIfInBounds_toArray, List.set_cons_zero, List.set_cons_succ])
              clear hif
              refine TR.eff _ (by simp only [List.getElem?_toArray, List.getElem?_cons_succ, List.getElem?_cons_zero]; rfl) (by rfl) (fun K hK => ?_); go_simp
              have RC := Lib.hid (show BReads V0 w.heap.size A2' (q - m) lc by have := BReads.cutb (Reads.below HR.out K1.out.hb) hnc hmq hqn; rw [HIF.out, HLC.out] at this; exact this)
              refine (own_any w.heap.size A2' (q - m) (cap0 - m) lc V0 RC.out K1.out.hb.size (by omega)).mono ?_
              rintro e V1 ⟨Ax, cx, rfl, hox, hbx⟩
              have K2 := Lib.hid (K1.out.below hbx)
              have OX := Lib.hid hox.reads
              refine hK.out _ _ ⟨Below.refl _ _, Below.refl _ _⟩ ?_
              clear hK hbx hox K1 RC
              (try simp only [Act.put, List.setIfInBounds_toArray, List.set_cons_zero, List.set_cons_succ])
              refine TR.eff _ (by simp only [List.getElem?_toArray, List.getElem?_cons_succ, List.getElem?_cons_zero]; rfl) (by rfl) (fun K hK => ?_); go_simp
              refine (hwrite_v gh gh (l.take m) _ Ax (q - m) cx lc V1 K2.out.hh OX.out (by have := HML.out; omega)).mono ?_
              rw [HTT.out]
              rintro e V2 ⟨rfl, hh, hbx⟩
              have K3 := Lib.hid (K2.out.step hbx hh)
              have hS : Below 0 V2 V2 ∧ Below 0 V2 V2 := ⟨Below.refl _ _, Below.refl _ _⟩
              refine hK.out _ _ hS ?_
              clear hK hbx hh K2 OX
              (try simp only [Act.put, List.setIfInBounds_toArray, List.set_cons_zero, List.set_cons_succ])
              iterate 6 ((first | (refine TR.val2 (v := ?_) _ (by simp only [List.getElem?_toArray, List.getElem?_cons_succ, List.getElem?_cons_zero]; rfl) ?_ ?_ ?_ ?_ ?_; rotate_left; (focus rfl); (focus (intro W hSW; (try dsimp only at hSW); (try (obtain ⟨hS1, hSW⟩ := hSW)); (try (obtain ⟨hS2, hSW⟩ := hSW)); (try (obtain ⟨hS3, hSW⟩ := hSW)); (try (obtain ⟨hS4, hSW⟩ := hSW)); (try (obtain ⟨hS5, hSW⟩ := hSW)); go_simp; (try with_reducible rfl); done)); (focus exact fun _ _ _ h => h); (focus assumption)) | (refine TR.skip _ (by simp only [List.getElem?_toArray, List.getElem?_cons_succ, List.getElem?_cons_zero]; rfl) ?_ ?_ ?_ ?_; (focus rfl); (focus exact fun _ _ _ h => h); (focus assumption))); simp only [Act.put, List.setIfInBounds_toArray, List.set_cons_zero, List.set_cons_succ])
              refine TR.eff _ (by simp only [List.getElem?_toArray, List.getElem?_cons_succ, List.getElem?_cons_zero]; rfl) (by rfl) (fun K hK => ?_); go_simp
              have SM := hsum_v gh gh lq V2 K3.out.hh (by have := HTL.out; omega)
              rw [HDQ.out] at SM
              refine SM.mono ?_
              clear SM
              rintro e V3 ⟨rfl, hbx⟩
              have K4 := Lib.hid (K3.out.below hbx)
              refine hK.out _ _ ⟨Below.refl _ _, Below.refl _ _⟩ ?_
              clear hK hbx K3
              (try simp only [Act.put, List.setIfInBounds_toArray, List.set_cons_zero, List.set_cons_succ])
              refine TR.eff _ (by simp only [List.getElem?_toArray, List.getElem?_cons_succ, List.getElem?_cons_zero]; rfl) (by rfl) (fun K hK => ?_); go_simp
              have RQ := Lib.hid (show BReads V3 w.heap.size a0 q lq by have := BReads.headb (Reads.below HR.out K4.out.hb) hqn; rw [HLQ.out] at this; exact this)
              refine (own_any w.heap.size _ q cap0 lq V3 RQ.out K4.out.hb.size (by omega)).mono ?_
              rintro e V4 ⟨Ay, cy, rfl, hoy, hby⟩
              have K5 := Lib.hid (K4.out.below hby)
              have OY := Lib.hid hoy.reads
              refine hK.out _ _ ⟨Below.refl _ _, Below.refl _ _⟩ ?_
              clear hK hby hoy K4 RQ
              (try simp only [Act.put, List.setIfInBounds_toArray, List.set_cons_zero, List.set_cons_succ])
              refine TR.eff _ (by simp only [List.getElem?_toArray, List.getElem?_cons_succ, List.getElem?_cons_zero]; rfl) (by rfl) (fun K hK => ?_); go_simp
              have OF := of_v Ay q cy lq V4 OY.out (by omega)
              rw [HDQ.out] at OF
              refine OF.mono ?_
              clear OF
              rintro e V5 ⟨rfl, hby⟩
              have K6 := Lib.hid (K5.out.below hby)
              have hS : Below 0 V5 V5 ∧ Below 0 V5 V5 := ⟨Below.refl _ _, Below.refl _ _⟩
              refine hK.out _ _ hS ?_
              clear hK hby K5 OY
              (try simp only [Act.put, List.setIfInBounds_toArray, List.set_cons_zero, List.set_cons_succ])
              iterate 5 ((first | (refine TR.val2 (v := ?_) _ (by simp only [List.getElem?_toArray, List.getElem?_cons_succ, List.getElem?_cons_zero]; rfl) ?_ ?_ ?_ ?_ ?_; rotate_left; (focus rfl); (focus (intro W hSW; (try dsimp only at hSW); (try (obtain ⟨hS1, hSW⟩ := hSW)); (try (obtain ⟨hS2, hSW⟩ := hSW)); (try (obtain ⟨hS3, hSW⟩ := hSW)); (try (obtain ⟨hS4, hSW⟩ := hSW)); (try (obtain ⟨hS5, hSW⟩ := hSW)); go_simp; (try with_reducible rfl); done)); (focus exact fun _ _ _ h => h); (focus assumption)) | (refine TR.skip _ (by simp only [List.getElem?_toArray, List.getElem?_cons_succ, List.getElem?_cons_zero]; rfl) ?_ ?_ ?_ ?_; (focus rfl); (focus exact fun _ _ _ h => h); (focus assumption))); simp only [Act.put, List.setIfInBounds_toArray, List.set_cons_zero, List.set_cons_succ])
              refine TR.eff _ (by simp only [List.getElem?_toArray, List.getElem?_cons_succ, List.getElem?_cons_zero]; rfl) (by rfl) (fun K hK => ?_); go_simp
              refine (hsize_v gh gh lq V5 K6.out.hh).mono ?_
              rw [HTL.out]
              rintro e _ ⟨rfl, rfl⟩
              refine hK.out _ _ hS ?_
              clear hK
              (try simp only [Act.put, List.setIfInBounds_toArray, List.set_cons_zero, List.set_cons_succ])
              iterate 2 ((first | (refine TR.val2 (v := ?_) _ (by simp only [List.getElem?_toArray, List.getElem?_cons_succ, List.getElem?_cons_zero]; rfl) ?_ ?_ ?_ ?_ ?_; rotate_left; (focus rfl); (focus (intro W hSW; (try dsimp only at hSW); (try (obtain ⟨hS1, hSW⟩ := hSW)); (try (obtain ⟨hS2, hSW⟩ := hSW)); (try (obtain ⟨hS3, hSW⟩ := hSW)); (try (obtain ⟨hS4, hSW⟩ := hSW)); (try (obtain ⟨hS5, hSW⟩ := hSW)); go_simp; (try with_reducible rfl); done)); (focus exact fun _ _ _ h => h); (focus assumption)) | (refine TR.skip _ (by simp only [List.getElem?_toArray, List.getElem?_cons_succ, List.getElem?_cons_zero]; rfl) ?_ ?_ ?_ ?_; (focus rfl); (focus exact fun _ _ _ h => h); (focus assumption))); simp only [Act.put, List.setIfInBounds_toArray, List.set_cons_zero, List.set_cons_succ])
              refine TR.done ?_
              clear hS hneq
              go_wp2
              go_roundw
              case rel => exact ⟨j + 1, q, hlt, hqn, by go_num, rfl, by rw [HLQ.out]; exact K6.out⟩
              case measure => simp [intOf]; omega
            · obtain rfl : j = len1 := by omega
              have d1 := dec_nlt (Nat.lt_irrefl j)
              have m0 : (0 : Int) ≤ (m : Int) := by omega
              have m1 : (m : Int) ≤ (n : Int) := by omega
              have s3 : m ≤ n := hm
              have HTT := Lib.hid (show l.take m ++ (l.drop m).take (n - m) = l by rw [take_two l hm, List.take_of_length_le (by rw [BReads.len HR.out]; exact Nat.le_refl _)])
              have HML := Lib.hid (show (l.take m).length = m by rw [List.length_take, BReads.len HR.out]; omega)
              have HLL := Lib.hid (BReads.len HR.out)
              obtain ⟨lc, hlc⟩ : ∃ lc, (l.drop m).take (n - m) = lc := ⟨_, rfl⟩
              have HLC := Lib.hid hlc
              rw [hlc] at HTT
              clear hlc hlt hj
              obtain ⟨A2', hif⟩ : ∃ A2', (if cap0 = m then a0 else Option.map (fun x => x.add m) a0) = A2' := ⟨_, rfl⟩
              have HIF := Lib.hid hif
              have heql := eq_dig ds HDL.out
              go_wp2
              refine wp_region_tree (SK.one 0 false <| .one 1 false <| .one 2 false <| .one 3 false <| .one 4 true <| .one 5 true <| .one 6 false <| .one 7 false <| .one 8 false <| .one 10 false <| .one 9 true <| .one 11 false <| .one 12 false <| .one 13 false <| .one 14 false <| .one 16 false <| .one 15 true <| .one 17 false <| .one 18 false <| .one 19 false .done) (fun V => Below 0 V V ∧ V.heap[gw]? = some (.cells (ds.map fun x : Nat => Value.int .u8 (x : Int)).toArray 29 (0, 0))) (by kernel_rfl) (by kernel_rfl) (by kernel_rfl) (by kernel_rfl) ?_
              have K1 := Lib.hid (K.out.below ((Below.refl _ _).drew))
              clear K
              generalize wr.drew = V0 at *
              have hS : Below 0 V0 V0 ∧ V0.heap[gw]? = some (.cells (ds.map fun x : Nat => Value.int .u8 (x : Int)).toArray 29 (0, 0)) := ⟨Below.refl _ _, K1.out.hd⟩
              ((first | (refine TR.val2 (v := ?_) _ (by simp only [List.getElem?_toArray, List.getElem?_cons_zero]; rfl) ?_ ?_ ?_ ?_ ?_; rotate_left; (focus rfl); (focus (intro W hSW; (try dsimp only at hSW); (try (obtain ⟨hS1, hSW⟩ := hSW)); (try (obtain ⟨hS2, hSW⟩ := hSW)); (try (obtain ⟨hS3, hSW⟩ := hSW)); (try (obtain ⟨hS4, hSW⟩ := hSW)); (try (obtain ⟨hS5, hSW⟩ := hSW)); go_simp; (try with_reducible rfl); done)); (focus exact fun _ _ _ h => h); (focus assumption)) | (refine TR.skip _ (by simp only [List.getElem?_toArray, List.getElem?_cons_zero]; rfl) ?_ ?_ ?_ ?_; (focus rfl); (focus exact fun _ _ _ h => h); (focus assumption))); simp only [Act.put, List.setIfInBounds_toArray, List.set_cons_zero, List.set_cons_succ])
              iterate 3 ((first | (refine TR.val2 (v := ?_) _ (by simp only [List.getElem?_toArray, List.getElem?_cons_succ, List.getElem?_cons_zero]; rfl) ?_ ?_ ?_ ?_ ?_; rotate_left; (focus rfl); (focus (intro W hSW; (try dsimp only at hSW); (try (obtain ⟨hS1, hSW⟩ := hSW)); (try (obtain ⟨hS2, hSW⟩ := hSW)); (try (obtain ⟨hS3, hSW⟩ := hSW)); (try (obtain ⟨hS4, hSW⟩ := hSW)); (try (obtain ⟨hS5, hSW⟩ := hSW)); go_simp; (try with_reducible rfl); done)); (focus exact fun _ _ _ h => h); (focus assumption)) | (refine TR.skip _ (by simp only [List.getElem?_toArray, List.getElem?_cons_succ, List.getElem?_cons_zero]; rfl) ?_ ?_ ?_ ?_; (focus rfl); (focus exact fun _ _ _ h => h); (focus assumption))); simp only [Act.put, List.setIfInBounds_toArray, List.set_cons_zero, List.set_cons_succ])
              clear hif
              refine TR.eff _ (by simp only [List.getElem?_toArray, List.getElem?_cons_succ, List.getElem?_cons_zero]; rfl) (by rfl) (fun K hK => ?_); go_simp
              have RC := Lib.hid (show BReads V0 w.heap.size A2' (n - m) lc by have := BReads.cutb (Reads.below HR.out K1.out.hb) hnc hm (Nat.le_refl _); rw [HIF.out, HLC.out] at this; exact this)
              refine (own_any w.heap.size A2' (n - m) (cap0 - m) lc V0 RC.out K1.out.hb.size (by omega)).mono ?_
              rintro e V1 ⟨Ax, cx, rfl, hox, hbx⟩
              have K2 := Lib.hid (K1.out.below hbx)
              have OX := Lib.hid hox.reads
              refine hK.out _ _ ⟨Below.refl _ _, K2.out.hd⟩ ?_
              clear hK hbx hox K1 RC hS
              (try simp only [Act.put, List.setIfInBounds_toArray, List.set_cons_zero, List.set_cons_succ])
              refine TR.eff _ (by simp only [List.getElem?_toArray, List.getElem?_cons_succ, List.getElem?_cons_zero]; rfl) (by rfl) (fun K hK => ?_); go_simp
              refine (hwrite_v gh gh (l.take m) _ Ax (n - m) cx lc V1 K2.out.hh OX.out (by have := HML.out; omega)).mono ?_
              rw [HTT.out]
              rintro e V2 ⟨rfl, hh, hbx⟩
              have K3 := Lib.hid (K2.out.step hbx hh)
              have hS : Below 0 V2 V2 ∧ V2.heap[gw]? = some (.cells (ds.map fun x : Nat => Value.int .u8 (x : Int)).toArray 29 (0, 0)) := ⟨Below.refl _ _, K3.out.hd⟩
              refine hK.out _ _ hS ?_
              clear hK hbx hh K2 OX
              (try simp only [Act.put, List.setIfInBounds_toArray, List.set_cons_zero, List.set_cons_succ])
              iterate 3 ((first | (refine TR.val2 (v := ?_) _ (by simp only [List.getElem?_toArray, List.getElem?_cons_succ, List.getElem?_cons_zero]; rfl) ?_ ?_ ?_ ?_ ?_; rotate_left; (focus rfl); (focus (intro W hSW; (try dsimp only at hSW); (try (obtain ⟨hS1, hSW⟩ := hSW)); (try (obtain ⟨hS2, hSW⟩ := hSW)); (try (obtain ⟨hS3, hSW⟩ := hSW)); (try (obtain ⟨hS4, hSW⟩ := hSW)); (try (obtain ⟨hS5, hSW⟩ := hSW)); go_simp; (try with_reducible rfl); done)); (focus exact fun _ _ _ h => h); (focus assumption)) | (refine TR.skip _ (by simp only [List.getElem?_toArray, List.getElem?_cons_succ, List.getElem?_cons_zero]; rfl) ?_ ?_ ?_ ?_; (focus rfl); (focus exact fun _ _ _ h => h); (focus assumption))); simp only [Act.put, List.setIfInBounds_toArray, List.set_cons_zero, List.set_cons_succ])
              refine TR.val2 (v := .agg (ds.map fun x : Nat => Value.int .u8 (x : Int)).toArray) _ (by simp only [List.getElem?_toArray, List.getElem?_cons_succ, List.getElem?_cons_zero]; rfl) ?_ ?_ ?_ ?_ ?_
              (focus rfl)
              (focus exact fun V hV => exec_load_row 29 (.tmp 9) rfl gw rfl 29 _ (0, 0) _ hV.2 Try.underlying29 rfl (HI9.out.trans (by rw [HSZ.out])))
              (focus exact fun _ _ _ h => h)
              (focus exact hS)
              simp only [Act.put, List.setIfInBounds_toArray, List.set_cons_zero, List.set_cons_succ]
              refine TR.eff _ (by simp only [List.getElem?_toArray, List.getElem?_cons_succ, List.getElem?_cons_zero]; rfl) (by rfl) (fun K hK => ?_); go_simp
              have SM := hsum_v gh gh l V2 K3.out.hh (by have := HLL.out; omega)
              rw [HDS.out] at SM
              refine SM.mono ?_
              clear SM
              rintro e V3 ⟨rfl, hbx⟩
              have K4 := Lib.hid (K3.out.below hbx)
              have hS : Below 0 V3 V3 ∧ V3.heap[gw]? = some (.cells (ds.map fun x : Nat => Value.int .u8 (x : Int)).toArray 29 (0, 0)) := ⟨Below.refl _ _, K4.out.hd⟩
              refine hK.out _ _ hS ?_
              clear hK hbx K3
              (try simp only [Act.put, List.setIfInBounds_toArray, List.set_cons_zero, List.set_cons_succ])
              iterate 4 ((first | (refine TR.val2 (v := ?_) _ (by simp only [List.getElem?_toArray, List.getElem?_cons_succ, List.getElem?_cons_zero]; rfl) ?_ ?_ ?_ ?_ ?_; rotate_left; (focus rfl); (focus (intro W hSW; (try dsimp only at hSW); (try (obtain ⟨hS1, hSW⟩ := hSW)); (try (obtain ⟨hS2, hSW⟩ := hSW)); (try (obtain ⟨hS3, hSW⟩ := hSW)); (try (obtain ⟨hS4, hSW⟩ := hSW)); (try (obtain ⟨hS5, hSW⟩ := hSW)); go_simp; (try with_reducible rfl); done)); (focus exact fun _ _ _ h => h); (focus assumption)) | (refine TR.skip _ (by simp only [List.getElem?_toArray, List.getElem?_cons_succ, List.getElem?_cons_zero]; rfl) ?_ ?_ ?_ ?_; (focus rfl); (focus exact fun _ _ _ h => h); (focus assumption))); simp only [Act.put, List.setIfInBounds_toArray, List.set_cons_zero, List.set_cons_succ])
              refine TR.val2 (v := .agg (ds.map fun x : Nat => Value.int .u8 (x : Int)).toArray) _ (by simp only [List.getElem?_toArray, List.getElem?_cons_succ, List.getElem?_cons_zero]; rfl) ?_ ?_ ?_ ?_ ?_
              (focus rfl)
              (focus exact fun V hV => exec_load_row 29 (.tmp 9) rfl gw rfl 29 _ (0, 0) _ hV.2 Try.underlying29 rfl (HI9.out.trans (by rw [HSZ.out])))
              (focus exact fun _ _ _ h => h)
              (focus exact hS)
              simp only [Act.put, List.setIfInBounds_toArray, List.set_cons_zero, List.set_cons_succ]
              refine TR.eff _ (by simp only [List.getElem?_toArray, List.getElem?_cons_succ, List.getElem?_cons_zero]; rfl) (by rfl) (fun K hK => ?_); go_simp
              have SM := hsum_v gh gh l V3 K4.out.hh (by have := HLL.out; omega)
              rw [HDS.out] at SM
              refine SM.mono ?_
              clear SM
              rintro e V4 ⟨rfl, hbx⟩
              have K5 := Lib.hid (K4.out.below hbx)
              have hS : Below 0 V4 V4 ∧ V4.heap[gw]? = some (.cells (ds.map fun x : Nat => Value.int .u8 (x : Int)).toArray 29 (0, 0)) := ⟨Below.refl _ _, K5.out.hd⟩
              refine hK.out _ _ hS ?_
              clear hK hbx K4
              (try simp only [Act.put, List.setIfInBounds_toArray, List.set_cons_zero, List.set_cons_succ])
              iterate 3 ((first | (refine TR.val2 (v := ?_) _ (by simp only [List.getElem?_toArray, List.getElem?_cons_succ, List.getElem?_cons_zero]; rfl) ?_ ?_ ?_ ?_ ?_; rotate_left; (focus rfl); (focus (intro W hSW; (try dsimp only at hSW); (try (obtain ⟨hS1, hSW⟩ := hSW)); (try (obtain ⟨hS2, hSW⟩ := hSW)); (try (obtain ⟨hS3, hSW⟩ := hSW)); (try (obtain ⟨hS4, hSW⟩ := hSW)); (try (obtain ⟨hS5, hSW⟩ := hSW)); go_simp; (try with_reducible rfl); done)); (focus exact fun _ _ _ h => h); (focus assumption)) | (refine TR.skip _ (by simp only [List.getElem?_toArray, List.getElem?_cons_succ, List.getElem?_cons_zero]; rfl) ?_ ?_ ?_ ?_; (focus rfl); (focus exact fun _ _ _ h => h); (focus assumption))); simp only [Act.put, List.setIfInBounds_toArray, List.set_cons_zero, List.set_cons_succ])
              refine TR.done ?_
              clear hS
              go_wp2
              go_ret
              exact ⟨rfl, K5.out.hb⟩
end Go.Proofs.Ytlbiinkidecfbaa
