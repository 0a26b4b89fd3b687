/-
  Digests: slices.Chunk of bytes.
-/
import Derived.Test.YtmaehbebpldpcaaShaG
import Derived.RangeFuncNested
import Derived.RangeFuncBound
import Derived.RangeFuncCalls
import Derived.RangeFuncLeaves
import Derived.RangeFuncFrom
import Derived.Shelf.Abstract
import Derived.Shelf.RegionOpen
import Derived.OwnWalkIn
import Derived.TacticsInMore
import Derived.LoopNIn
import Derived.LoopIn
namespace Go.Proofs.Ytmaehbebpldpcaa
open Go.RowKit Go.Shelf
attribute [local go_sem] Oper.semAt_some
theorem dec_nlt' {a b : Nat} (h : ¬ a < b) : decide (a < b) = false := by simpa using h
/-- The numbers below m. -/
abbrev Ix (m : Nat) := { k : Nat // k < m }
/-- How many chunks of z there are in n. -/
def chunkN (n z : Nat) : Nat := (n + z - 1) / z
theorem chunk_lt {n z k : Nat} (hz : 0 < z) : k < chunkN n z ↔ k * z < n := by
  unfold chunkN
  rw [Nat.lt_div_iff_mul_lt hz]
  omega
def chunkL (n z k : Nat) : Nat := min z (n - k * z)
def chunkV (ad : Addr) (n z k : Nat) : Value := .slice (some (ad.add (k * z))) (chunkL n z k) (chunkL n z k)
/-- The boxes of a chunk's iterator are kept. -/
def KpB (a b : Nat) (W W' : World) : Prop := W'.heap[a]? = W.heap[a]? ∧ W'.heap[b]? = W.heap[b]?
set_option maxHeartbeats 1000000 in
theorem chunk_v (A : Option Addr) (n c z : Nat) (w : World) (hz : 0 < z) (hz2 : z ≤ 9223372036854775807) :
    CallsIn Fence.wide 5 Try.prog 34 #[.slice A n c, .int .i64 (z : Int)] w fun e w' =>
      e = .returned (.func (.func 45) #[] #[.pointer (some ⟨w.heap.size, 0, none⟩), .pointer (some ⟨w.heap.size + 1, 0, none⟩)]) ∧ w' = (w.alloc (.cells #[.slice A n c] 25)).alloc (.cells #[.int .i64 (z : Int)] 3) := by
  have d : decide ((z : Int) < 1) = false := by simp; omega
  refine callsIn_of_wp Try.func34 rfl trivial ?_ rfl
  simp only [Try.ntmps34, List.size_toArray, List.length_cons, List.length_nil, Nat.reduceAdd, Nat.reduceSub, Array.replicate_succ, Array.replicate_zero, List.push_toArray, List.append_toArray, List.nil_append, List.cons_append]
  gi_wp2
  go_ret
  exact ⟨rfl, rfl⟩
set_option maxRecDepth 100000 in
set_option maxHeartbeats 2000000 in
theorem chunk_stops (a b : Nat) (ad : Addr) (n c z : Nat) (w : World) (m : Nat) (ha : a < w.heap.size) (hb : b < w.heap.size) (hca : w.cell? ⟨a, 0, none⟩ = some (.slice (some ad) n c)) (hcb : w.cell? ⟨b, 0, none⟩ = some (.int .i64 (z : Int)))
    (hz : 0 < z) (hz2 : z ≤ 4503599627370496) (hnc : n ≤ c) (hn : n ≤ 9007199254740992) :
    SeqStopsK Fence.wide m Try.prog 45 #[.pointer (some ⟨a, 0, none⟩), .pointer (some ⟨b, 0, none⟩)] (fun x : Ix (chunkN n z) => #[chunkV ad n z x.1]) (KpB a b)
      (fun xs => xs.map (·.1) = List.range (chunkN n z)) (fun _ => True) (chunkN n z) w := fun l J Jx W hW hJ hJx hY h0 => by
  have wca : W.cell? ⟨a, 0, none⟩ = some (.slice (some ad) n c) := (hW.cell (p := ⟨a, 0, none⟩) ha).trans hca
  have wcb : W.cell? ⟨b, 0, none⟩ = some (.int .i64 (z : Int)) := (hW.cell (p := ⟨b, 0, none⟩) hb).trans hcb
  clear hca hcb
  refine callsIn_of_wp Try.func45 rfl trivial ?_ rfl
  simp only [Try.ntmps45, List.size_toArray, List.length_cons, List.length_nil, Nat.reduceAdd, Nat.reduceSub, Array.replicate_succ, Array.replicate_zero, List.push_toArray, List.append_toArray, List.nil_append, List.cons_append]
  gi_wp2
  gi_loopw [4] (fun i wr => ∃ (k : Nat) (pre : List (Ix (chunkN n z))), k ≤ chunkN n z ∧ i = .int .i64 ((k * z : Nat) : Int) ∧ pre.map (·.1) = List.range k ∧ J pre wr ∧ wr.cell? ⟨a, 0, none⟩ = some (.slice (some ad) n c) ∧ wr.cell? ⟨b, 0, none⟩ = some (.int .i64 (z : Int))) (fun i _ => n + z - (intOf i).toNat)
  case atStart => exact ⟨0, [], Nat.zero_le _, by simp, rfl, h0, wca, wcb⟩
  case round =>
    obtain ⟨k, pre, hk, rfl, hpre, hJs, ca, cb⟩ := hrel
    by_cases hlt : k < chunkN n z
    · have hkz := (chunk_lt hz).1 hlt
      have hJd : J pre wr.drew := hJ _ _ _ none hJs (gb_drew (World.grownBy.refl wr none)) (fun r e => by cases e)
      obtain ⟨fn, tmps, assign, body, hy, hR⟩ := hY pre ⟨k, hlt⟩ wr.drew hJd (by have := congrArg List.length hpre; simp at this; omega)
      have hd : wr.drew.cell? ⟨a, 0, none⟩ = some (.slice (some ad) n c) ∧ wr.drew.cell? ⟨b, 0, none⟩ = some (.int .i64 (z : Int)) := ⟨ca, cb⟩
      obtain ⟨ca', cb'⟩ := hd
      obtain ⟨q, hq⟩ : ∃ q, k * z = q := ⟨_, rfl⟩
      obtain ⟨e, he⟩ : ∃ e, min z (n - q) = e := ⟨_, rfl⟩
      have HQ := Lib.hid hq
      have HE := Lib.hid he
      have he1 : 0 < e := by omega
      have he2 : q + e ≤ n := by omega
      have HIF := Lib.hid (show (if n - q < z then ((n - q : Nat) : Int) else (z : Int)) = (e : Int) by split <;> omega)
      dsimp only [chunkV, chunkL] at hy
      rw [hq, he] at hy
      rw [hq] at hkz ⊢
      clear hq he
      have u1 : (0 : Int) ≤ (q : Int) := by omega
      have u2 : q ≤ n := by omega
      have u3 : (q : Int) + (e : Int) ≤ (c : Int) := by omega
      have u4 : (q : Int) ≤ (q : Int) + (e : Int) := by omega
      have u5 : ((q : Int) + (e : Int)).toNat = q + e := by omega
      have u6 : q ≤ q + e := by omega
      have u7 : q + e ≤ c := by omega
      have u8 : ¬ (q + e = q) := by omega
      have u9 : q + e - q = e := by omega
      gi_wp2
      gi_region
      rw [HIF.out]
      clear ca cb
      generalize wr.drew = w1 at *
      gi_wp2
      refine ⟨fun h => by simp [Fence.wide] at h, hR.mono ?_⟩
      rintro e1 W3 (⟨rfl, hJ3, hk3⟩ | ⟨rfl, hJx3⟩)
      · have ca3 : W3.cell? ⟨a, 0, none⟩ = some (.slice (some ad) n c) := (World.cell?_of_block hk3.1).trans ca'
        have cb3 : W3.cell? ⟨b, 0, none⟩ = some (.int .i64 (z : Int)) := (World.cell?_of_block hk3.2).trans cb'
        have v1 : q + z < 9223372036854775808 := by omega
        gi_wp2
        go_roundw
        case rel => exact ⟨k + 1, pre ++ [⟨k, hlt⟩], hlt, by rw [Nat.succ_mul, HQ.out]; go_num, by rw [List.map_append, hpre, List.range_succ]; rfl, hJ3, ca3, cb3⟩
        case measure => simp [intOf]; omega
      · gi_wp2
        refine bodyPost_ret (results_none rfl _ _ _) rfl ?_
        exact ⟨⟨_, rfl⟩, .inr ⟨_, trivial, hJx3⟩⟩
    · obtain rfl : k = chunkN n z := by omega
      have hnl : ¬ chunkN n z * z < n := fun h => by have := (chunk_lt hz).2 h; omega
      obtain ⟨q, hq⟩ : ∃ q, chunkN n z * z = q := ⟨_, rfl⟩
      rw [hq] at hnl ⊢
      have d1 := dec_nlt' hnl
      gi_wp2
      go_end0
      exact ⟨⟨_, rfl⟩, .inl ⟨pre, hpre, hJs⟩⟩
end Go.Proofs.Ytmaehbebpldpcaa
