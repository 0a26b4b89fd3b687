/-
  The reference's table: Place, Put, Drop.
-/
import Derived.Test.YtohcdnbchidjeaaTabCh
namespace Go.Proofs.Ytohcdnbchidjeaa
open Go.RowKit
theorem lo_at {L : List KV} {key : ByteArray} (h : asc L) {j : Nat} {x : KV} (hx : L[j]? = some x) : (j < (lo key L).length ∧ klt x.1 key = true) ∨ ((lo key L).length ≤ j ∧ klt x.1 key = false) := by
  have e := lo_hi (q := key) h
  rw [← e] at hx
  by_cases hj : j < (lo key L).length
  · rw [List.getElem?_append_left hj] at hx
    exact .inl ⟨hj, (mem_lo.1 (List.mem_of_getElem? hx)).2⟩
  · rw [List.getElem?_append_right (by omega)] at hx
    exact .inr ⟨by omega, (mem_hi.1 (List.mem_of_getElem? hx)).2⟩
theorem lo_len (key : ByteArray) (L : List KV) : (lo key L).length ≤ L.length := List.length_filter_le _ _
theorem take_lo {L : List KV} (key : ByteArray) (h : asc L) : L.take (lo key L).length = lo key L := by
  have e := lo_hi (q := key) h
  have : (lo key L ++ hi key L).take (lo key L).length = lo key L := by simp
  rwa [e] at this
theorem drop_lo {L : List KV} (key : ByteArray) (h : asc L) : L.drop (lo key L).length = hi key L := by
  have e := lo_hi (q := key) h
  have : (lo key L ++ hi key L).drop (lo key L).length = hi key L := by simp
  rwa [e] at this
set_option maxHeartbeats 1000000 in
theorem rplace_v (key : ByteArray) (L : List KV) (B : Nat) (A : Option Addr) (n c : Nat) (w : World) (hr : PReads w B A n (pvs L)) (hB : B ≤ w.heap.size) (ha : asc L) (hn : n ≤ 1000000) :
    Calls Try.prog 33 #[.agg #[.slice A n c], .string key] w fun e w' => e = .returned (.int .i64 ((lo key L).length : Int)) ∧ Below w.heap.size w w' := by
  have HN := Lib.hid (show L.length = n by rw [← hr.len, pvs_len])
  have HR := Lib.hid (Reads.alloc hr hB (.cells #[.slice A n c] 44))
  have HB := Lib.hid (show Below w.heap.size w (w.alloc (.cells #[.slice A n c] 44)) from (Below.refl _ _).alloc (Nat.le_refl _) _)
  have HC := Lib.hid (box1 w (.slice A n c) 44)
  have HLO := Lib.hid (fun (j : Nat) (x : KV) => lo_at (key := key) ha (j := j) (x := x))
  have hlen := lo_len key L
  rw [HN.out] at hlen
  clear hr ha
  generalize hk : (lo key L).length = k at *
  clear hk
  go_enter Try.func33, Try.ntmps33
  go_wp2
  generalize w.alloc (.cells #[.slice A n c] 44) = W at *
  go_loopw [5] (fun i wr => ∃ j : Nat, j ≤ k ∧ i = .int .i64 (j : Int) ∧ W = wr) (fun i _ => k - (intOf i).toNat)
  case atStart => exact ⟨0, Nat.zero_le _, rfl, rfl⟩
  case round =>
    obtain ⟨j, hj, rfl, rfl⟩ := hrel
    have hc := HC.out
    by_cases hlt : j < n
    · obtain ⟨ad, x, hA, _, hx, d0, _, _⟩ := PReads.at_ HR.out hlt
      subst hA
      obtain ⟨y, hy, rfl⟩ := pvs_at hx
      have d0' : W.cell? (ad.add (j * 3)) = some (.string y.1) := d0
      have hj0 : (0 : Int) ≤ (j : Int) := by omega
      have hj1 : (j : Int) < (n : Int) := by omega
      rcases HLO.out j y hy with ⟨h1, h2⟩ | ⟨h1, h2⟩
      · have g1 : Op.bytesLess y.1.toList key.toList = true := h2
        clear hx hy d0 h2
        go_wp2
        go_roundw
        case rel => exact ⟨j + 1, by omega, by go_num, trivial⟩
        case measure => simp [intOf]; omega
      · have g1 : Op.bytesLess y.1.toList key.toList = false := h2
        obtain rfl : j = k := by omega
        clear hx hy d0 h2
        go_wp2
        go_ret
        exact ⟨rfl, HB.out⟩
    · obtain rfl : j = k := by omega
      go_wp2
      go_ret
      exact ⟨rfl, HB.out⟩
end Go.Proofs.Ytohcdnbchidjeaa
