/-
  Tables in memory: trees that are never written; count, with, Rank, above.
-/
import Derived.Test.YtohcdnbchidjeaaBase
import Derived.Test.YtohcdnbchidjeaaTabN
import Derived.Test.YtohcdnbchidjeaaChecked
import Derived.Laws.BitsAllLaws
import Derived.Laws.BitsLemmas
import Derived.Laws.Rows
namespace Go.Proofs.Ytohcdnbchidjeaa
open Go.RowKit
/-- A tree lies at a pointer, below block B. -/
def Rep (w : World) (B : Nat) : Tr → Option Addr → Prop
  | .nil, p => p = none
  | .node l k v r, p => ∃ (b : Nat) (pl pr : Option Addr), p = some ⟨b, 0, none⟩ ∧ b < B ∧
      (w.cell? ⟨b, 0, none⟩ = some (.string k) ∧ w.cell? ⟨b, 1, none⟩ = some (.string v) ∧ w.cell? ⟨b, 2, none⟩ = some (.int .u32 (rk k : Int)) ∧ w.cell? ⟨b, 3, none⟩ = some (.int .i64 ((l.cnt + r.cnt + 1 : Nat) : Int)) ∧
        w.cell? ⟨b, 4, none⟩ = some (.pointer pl) ∧ w.cell? ⟨b, 5, none⟩ = some (.pointer pr)) ∧ Rep w B l pl ∧ Rep w B r pr
theorem Rep.keep {w w' : World} {B : Nat} (hk : ∀ p : Addr, p.block < B → w'.cell? p = w.cell? p) : ∀ {t : Tr} {p : Option Addr}, Rep w B t p → Rep w' B t p
  | .nil, _, h => h
  | .node _ _ _ _, _, ⟨b, pl, pr, hp, hb, ⟨h0, h1, h2, h3, h4, h5⟩, hl, hr⟩ =>
    ⟨b, pl, pr, hp, hb, ⟨(hk _ hb).trans h0, (hk _ hb).trans h1, (hk _ hb).trans h2, (hk _ hb).trans h3, (hk _ hb).trans h4, (hk _ hb).trans h5⟩, Rep.keep hk hl, Rep.keep hk hr⟩
theorem Rep.more {w : World} {B B' : Nat} (hB : B ≤ B') : ∀ {t : Tr} {p : Option Addr}, Rep w B t p → Rep w B' t p
  | .nil, _, h => h
  | .node _ _ _ _, _, ⟨b, pl, pr, hp, hb, hc, hl, hr⟩ => ⟨b, pl, pr, hp, Nat.lt_of_lt_of_le hb hB, hc, Rep.more hB hl, Rep.more hB hr⟩
theorem Rep.below {w w' : World} {B : Nat} {t : Tr} {p : Option Addr} (h : Rep w B t p) (hb : Below B w w') : Rep w' B t p := Rep.keep (fun _ hp => hb.cell hp) h
theorem Rep.alloc {w : World} {B : Nat} {t : Tr} {p : Option Addr} (h : Rep w B t p) (hB : B ≤ w.heap.size) (o : Obj) : Rep (w.alloc o) B t p := Rep.keep (fun q hp => World.cell?_alloc_lt w o q (by omega)) h
theorem Rep.setCell {w : World} {B : Nat} {t : Tr} {p : Option Addr} (h : Rep w B t p) {q : Addr} (hB : B ≤ q.block) (u : Value) : Rep (w.setCell q u) B t p :=
  Rep.keep (fun a ha => World.cell?_setCell_other w q a u (fun e => by subst e; omega)) h
theorem Rep.drewN {w : World} {B : Nat} {t : Tr} {p : Option Addr} (h : Rep w B t p) (k : Nat) : Rep (w.drewN k) B t p := Rep.keep (w := w) (w' := w.drewN k) (fun _ _ => rfl) h
theorem Rep.drew {w : World} {B : Nat} {t : Tr} {p : Option Addr} (h : Rep w B t p) : Rep w.drew B t p := Rep.keep (w := w) (w' := w.drew) (fun _ _ => rfl) h
theorem Rep.step {w w' : World} {t : Tr} {p : Option Addr} (h : Rep w w.heap.size t p) (hb : Below w.heap.size w w') : Rep w' w'.heap.size t p := Rep.more hb.size (Rep.below h hb)
theorem Rep.nil_ (w : World) (B : Nat) : Rep w B .nil none := rfl
theorem btwo {w w1 w2 : World} (h : Below w.heap.size w w1) (k : Below w1.heap.size w1 w2) : Below w.heap.size w w2 := h.trans (k.mono h.size)
/-- A node in a new block. -/
theorem Rep.new (w : World) (l r : Tr) (k v : ByteArray) (pl pr : Option Addr) (n : Nat) (hn : n = l.cnt + r.cnt + 1) (hl : Rep w w.heap.size l pl) (hr : Rep w w.heap.size r pr) (T : TypeId) :
    Rep (w.alloc (.cells #[.string k, .string v, .int .u32 (rk k : Int), .int .i64 (n : Int), .pointer pl, .pointer pr] T)) (w.heap.size + 1) (.node l k v r) (some ⟨w.heap.size, 0, none⟩) := by
  subst hn
  refine ⟨w.heap.size, pl, pr, rfl, Nat.lt_succ_self _, ⟨?_, ?_, ?_, ?_, ?_, ?_⟩, Rep.more (Nat.le_succ _) (hl.alloc (Nat.le_refl _) _), Rep.more (Nat.le_succ _) (hr.alloc (Nat.le_refl _) _)⟩ <;> rw [World.cell?_alloc_at _ _ _ _ rfl] <;> rfl

set_option maxHeartbeats 400000 in
theorem count_v (B : Nat) (t : Tr) (p : Option Addr) (w : World) (h : Rep w B t p) :
    Calls Try.prog 40 #[.pointer p] w fun e w' => e = .returned (.int .i64 (t.cnt : Int)) ∧ w = w' := by
  cases t with
  | nil =>
    obtain rfl : p = none := h
    go_enter Try.func40, Try.ntmps40
    go_wp2
    go_ret
    exact ⟨rfl, rfl⟩
  | node l k v r =>
    obtain ⟨b, pl, pr, rfl, hb, ⟨_, _, _, h3, _, _⟩, _, _⟩ := h
    go_enter Try.func40, Try.ntmps40
    go_wp2
    go_ret
    exact ⟨rfl, rfl⟩
set_option maxHeartbeats 1000000 in
theorem with_v (B : Nat) (b : Nat) (k v : ByteArray) (s0 : Int) (l0 r0 pl pr : Option Addr) (l r : Tr) (w : World) (hB : B ≤ w.heap.size)
    (h0 : w.cell? ⟨b, 0, none⟩ = some (.string k)) (h1 : w.cell? ⟨b, 1, none⟩ = some (.string v)) (h2 : w.cell? ⟨b, 2, none⟩ = some (.int .u32 (rk k : Int)))
    (h3 : w.cell? ⟨b, 3, none⟩ = some (.int .i64 s0)) (h4 : w.cell? ⟨b, 4, none⟩ = some (.pointer l0)) (h5 : w.cell? ⟨b, 5, none⟩ = some (.pointer r0))
    (hl : Rep w B l pl) (hr : Rep w B r pr) (hc : l.cnt + r.cnt ≤ 1000000) :
    Calls Try.prog 48 #[.pointer (some ⟨b, 0, none⟩), .pointer pl, .pointer pr] w fun e w' => ∃ p, e = .returned (.pointer p) ∧ Rep w' w'.heap.size (.node l k v r) p ∧ Below w.heap.size w w' := by
  have HL := Lib.hid (Rep.more hB hl)
  have HR := Lib.hid (Rep.more hB hr)
  clear hl hr
  go_enter Try.func48, Try.ntmps48
  go_wp2_with fail
  refine (count_v w.heap.size l pl _ (HL.out.alloc (Nat.le_refl _) _)).mono ?_
  rintro e _ ⟨rfl, rfl⟩
  go_wp2_with fail
  refine (count_v w.heap.size r pr _ (HR.out.alloc (Nat.le_refl _) _)).mono ?_
  rintro e _ ⟨rfl, rfl⟩
  go_wp2
  go_ret
  exact ⟨_, rfl, by have := Rep.new w l r k v pl pr (l.cnt + r.cnt + 1) rfl HL.out HR.out 64; simpa using this, (Below.refl _ _).alloc (Nat.le_refl _) _⟩
theorem bsz (p : ByteArray) : p.data.toList.length = p.size := Array.length_toList
theorem take_snoc (s : ByteArray) (k : Nat) (h : k < s.size) : s.data.toList.take (k + 1) = s.data.toList.take k ++ [s[k]] := by
  rw [List.take_succ_eq_append_getElem (by simpa using h)]; rfl
theorem rk_snoc (l : List UInt8) (c : UInt8) : rkL (l ++ [c]) = rkStep (rkL l) c := by unfold rkL; rw [List.foldl_append, List.foldl_cons, List.foldl_nil]
theorem rank_step (x : Nat) (c : UInt8) (hx : x < 4294967296) : bits .xor .u32 (x : Int) ((c.toNat : Int) % 4294967296) * 16777619 % 4294967296 = ((rkStep x c : Nat) : Int) := by
  have hc := c.toNat_lt
  have he : (c.toNat : Int) % 4294967296 = (c.toNat : Int) := by omega
  rw [he, u32_xor_nat _ _ hx (by omega), rkStep]
  simp
set_option maxHeartbeats 400000 in
theorem rank_v (k : ByteArray) (w : World) (hk : k.size ≤ maxLen) :
    Calls Try.prog 12 #[.string k] w fun e w' => e = .returned (.int .u32 (rk k : Int)) ∧ w = w' := by
  unfold maxLen at hk
  go_enter Try.func12, Try.ntmps12
  go_wp2
  go_loop [3, 7] (fun x i => ∃ n : Nat, n ≤ k.size ∧ i = .int .i64 n ∧ x = .int .u32 (rkL (k.data.toList.take n) : Int)) (fun _ i => k.size - (intOf i).toNat)
  case atStart => exact ⟨0, Nat.zero_le _, rfl, rfl⟩
  case round =>
    obtain ⟨n, hn, rfl, rfl⟩ := hrel
    have hx := rkL_lt (k.data.toList.take n)
    by_cases hlt : n < k.size
    · have HS := Lib.hid (show rkL (k.data.toList.take (n + 1)) = rkStep (rkL (k.data.toList.take n)) k[n] by
        rw [take_snoc k n hlt, rk_snoc])
      generalize rkL (k.data.toList.take n) = x at *
      go_wp2
      go_round
      case rel => exact ⟨n + 1, by omega, by go_num, by rw [HS.out, rank_step x _ hx]⟩
      case measure => simp [intOf]; omega
    · go_wp2
      go_ret
      exact ⟨ret_int (by rw [List.take_of_length_le (by rw [bsz]; omega)]; rfl), rfl⟩
end Go.Proofs.Ytohcdnbchidjeaa
