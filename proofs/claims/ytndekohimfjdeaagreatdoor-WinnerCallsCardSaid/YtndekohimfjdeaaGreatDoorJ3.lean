/-
  Paths, the reference: rows of texts that a call owns; the last of a byte; names.
  Paths, the reference: Name.
  Paths, the reference: names, Check.
  A cell of an object laid last.
  A region that draws its order, walked along a tree of orders: as XText, but where two operations that may change the world can come up, both ways are walked.
  Blocks: lists of digests; whether a list may be; where a block goes.
  Blocks: digests compared; where a block goes; lists compared.
  Blocks: rows of digests, and lists, compared.
  Records: the chapters' contracts side by side.
  Records: the plain law of Check.
  Records: the program's Check.
  Records: record.Check.
-/
import Derived.Test.YtndekohimfjdeaaGreatDoorJ1
import Derived.Test.YtndekohimfjdeaaGreatDoorJ2
import Derived.Test.YtndekohimfjdeaaGreatDoorChecked
import Derived.Shelf.Abstract
import Derived.Deep.Cut
import Derived.Laws.StructEq
namespace Go.Proofs.YtndekohimfjdeaaGreatDoor
open Go.RowKit
/-- A row of texts: of the call's own, and one that can be read. -/
def SOwn (w : World) (base : Nat) (A : Option Addr) (n c : Nat) (l : List ByteArray) : Prop := w.ownsRow base 9 1 (.slice A n c) n (l.map Value.string) ∧ n ≤ c
abbrev SReads (w : World) (B : Nat) (A : Option Addr) (n : Nat) (l : List ByteArray) : Prop := Reads w B 1 A n (l.map Value.string)
theorem SReads.len {w : World} {B n : Nat} {A : Option Addr} {l : List ByteArray} (h : SReads w B A n l) : l.length = n := by have := h.1; simpa using this
theorem SReads.at_ {w : World} {B n k : Nat} {A : Option Addr} {l : List ByteArray} (h : SReads w B A n l) (hk : k < n) :
    ∃ ad d, A = some ad ∧ l[k]? = some d ∧ ∀ W, Below B w W → W.cell? (ad.add k) = some (.string d) := by
  obtain ⟨ad, u, e, hb, hu, hc⟩ := Reads.at_ (show Reads w B 1 A n _ from h) hk
  rw [List.getElem?_map] at hu
  cases hl : l[k]? with
  | none => rw [hl] at hu; cases hu
  | some x =>
    rw [hl] at hu
    injection hu with hu
    subst hu
    exact ⟨ad, x, e, rfl, fun W hW => (hW.cell (by rw [block_of_add]; exact hb)).trans hc⟩
section
variable {w w' : World} {base n c : Nat} {A : Option Addr} {l : List ByteArray}
theorem own_keep {K : Nat} {e : TypeId} {v : Value} {xs : List Value} (h : w.ownsRow base e K v n xs) (hk : ∀ j, v.ownBlock = some j → w'.heap[j]? = w.heap[j]?) : w'.ownsRow base e K v n xs := by
  refine ⟨h.1, ?_⟩
  rcases h.2 with hn | ⟨g, cap, cur, ev, hg, hh, rest⟩
  · exact .inl hn
  · exact .inr ⟨g, cap, cur, ev, hg, (hk g (by rw [ev]; rfl)).trans hh, rest⟩
theorem SOwn.reads (h : SOwn w base A n c l) : SReads w w.heap.size A n l := Reads.of_own h.1
theorem SOwn.nil_ (w : World) (base : Nat) : SOwn w base none 0 0 [] := ⟨World.ownsRow_nil w base _ 1, Nat.le_refl _⟩
theorem SOwn.lt (h : SOwn w base A n c l) : ∀ j, (Value.slice A n c).ownBlock = some j → base ≤ j ∧ j < w.heap.size := h.1.lt
theorem SOwn.alloc (h : SOwn w base A n c l) (o : Obj) : SOwn (w.alloc o) base A n c l := ⟨h.1.alloc o, h.2⟩
theorem SOwn.below (h : SOwn w base A n c l) (hb : Below w.heap.size w w') : SOwn w' base A n c l := ⟨own_keep h.1 (fun j hj => hb.block j (h.lt j hj).2), h.2⟩
theorem SReads.one (e : TypeId) (w : World) (z : ByteArray) : SReads (w.alloc (.cells #[.string z] e)) (w.heap.size + 1) (some ⟨w.heap.size, 0, none⟩) 1 [z] := by
  refine ⟨rfl, fun _ => ⟨_, rfl, Nat.lt_succ_self _, fun j u hu => ?_⟩⟩
  have hj : j = 0 := by
    rcases j with _ | j
    · rfl
    · simp at hu
  subst hj
  simp only [List.map_cons, List.map_nil, List.getElem?_cons_zero, Option.some.injEq] at hu
  subst hu
  rw [show (⟨w.heap.size, 0, none⟩ : Addr).add 0 = ⟨w.heap.size, 0, none⟩ from rfl]
  exact World.cell?_alloc_at _ _ _ _ rfl
end
theorem info_str : (Tryz.prog.info? 9).map (fun i => (i.zero, i.size, i.bytes)) = some (some (.string ⟨#[]⟩), 1, 16) := by kernel_rfl
theorem info_parts {P : Program} {e : TypeId} {z : Value} {s b : Nat} (h : (P.info? e).map (fun i => (i.zero, i.size, i.bytes)) = some (some z, s, b)) : ∃ i, P.info? e = some i ∧ i.zero = some z ∧ i.size = s ∧ i.bytes = b := by
  cases hq : P.info? e with
  | none => rw [hq] at h; cases h
  | some i =>
    rw [hq] at h
    simp only [Option.map_some, Option.some.injEq, Prod.mk.injEq] at h
    exact ⟨i, rfl, h.1, h.2.1, h.2.2⟩
section
variable {ops : Array Oper} {rest : List Oper} {o : Oper} {a : Act} {Q : Exit → Act → World → Prop} {w : World}
theorem wpList_appS (hgd : o.guard = none) (s x : Operand)
    (ho : o.op = .call { callee := .builtin .append, args := #[s, x], argTypes := #[29, 29] })
    (base : Nat) (A : Option Addr) (n c : Nat) (xs : List ByteArray) (hs : a.eval s = .slice A n c) (hown : SOwn w base A n c xs)
    (B : Nat) (D : Option Addr) (m d : Nat) (l : List ByteArray) (hx : a.eval x = .slice D m d) (hr : SReads w B D m l)
    (N : Nat) (L : List ByteArray) (hN : n + m = N) (hL : xs ++ l = L) (hlen : N ≤ 1000000) (hbase : base ≤ w.heap.size)
    (h : ∀ A' c' w', SOwn w' base A' N c' L → w.grownBy w' (Value.slice A n c).ownBlock → wpList Tryz.prog ops Q rest (a.put o.dst (.slice A' N c')) w') : wpList Tryz.prog ops Q (o :: rest) a w := by
  subst hN hL
  obtain ⟨i0, hi, hz0, hz1, hz2⟩ := info_parts info_str
  refine wpList_append_any w hgd s x 29 ho base 9 i0 (.string ⟨#[]⟩) 1 16 Tryz.underlying29 hi hz0 hz1 hz2 rfl (by decide) (.slice A n c) n _ hs hown.1 B D m d _ hx hr
    (fun u hu => by obtain ⟨y, _, rfl⟩ := List.mem_map.1 hu; rfl) (by simp only [maxLen]; omega) (by omega) hbase ?_
  intro v' w' hown' hg hat
  obtain ⟨A', c', rfl, hc⟩ := own_shape hown'
  exact h A' c' w' ⟨by rw [List.map_append]; exact hown', hc⟩ hg
end
theorem sown_app {w w' : World} {base n c : Nat} {A : Option Addr} {xs : List ByteArray} {a : World} {B : Nat} (h : Below B a w) (hg : w.grownBy w' (Value.slice A n c).ownBlock) (ho : SOwn w base A n c xs) (hB : B ≤ base) (hs : B ≤ w.heap.size) : Below B a w' :=
  h.grown hg hs fun g hg2 => Nat.le_trans hB (ho.lt g hg2).1
/-! ### The last of a byte -/
theorem last_none {c : UInt8} {l : Bl} (h : ∀ (j : Nat) (x : UInt8), l[j]? = some x → x ≠ c) : cutL c l = none := cutL_none.2 fun hm => by
  obtain ⟨j, hj⟩ := List.mem_iff_getElem?.1 hm
  exact h j c hj rfl
theorem last_some {c : UInt8} {l : Bl} {k : Nat} (hk : l[k]? = some c) (h : ∀ (j : Nat) (x : UInt8), k + 1 ≤ j → l[j]? = some x → x ≠ c) : cutL c l = some (l.take k, l.drop (k + 1)) := cutL_some.2 ⟨by
  obtain ⟨hl, e⟩ := List.getElem?_eq_some_iff.1 hk
  have h5 := List.drop_eq_getElem_cons hl
  rw [e] at h5
  rw [← h5, List.take_append_drop], fun hm => by
  obtain ⟨j, hj⟩ := List.mem_iff_getElem?.1 hm
  rw [List.getElem?_drop] at hj
  exact h (k + 1 + j) c (by omega) hj rfl⟩
/-- Where the last of a byte is, as a number. -/
def lastN (c : UInt8) (l : Bl) : Int := match cutL c l with
  | some (a, _) => (a.length : Int)
  | none => -1
set_option maxRecDepth 100000 in
set_option maxHeartbeats 4000000 in
theorem rlast_v (l : Bl) (c : UInt8) (w : World) (hs : l.length ≤ 1000000) : Calls Tryz.prog 84 #[.string (st l), .int .u8 (c.toNat : Int)] w fun e w' => e = .returned (.int .i64 (lastN c l)) ∧ w = w' := by
  have HZ := Lib.hid (st_size l)
  obtain ⟨n, hn⟩ : ∃ n, (st l).size = n := ⟨_, rfl⟩
  have HN := Lib.hid (show l.length = n by rw [← hn, st_size])
  have HS := Lib.hid hn
  have hsz : ((st l).size : Int) = (n : Int) := by rw [hn]
  clear hn
  have hn6 : n ≤ 1000000 := by rw [← HN.out]; exact hs
  go_enter Tryz.func84, Tryz.ntmps84
  go_wp2_with fail
  go_loopw [5] (fun i wr => ∃ k : Nat, k ≤ n ∧ i = .int .i64 ((k : Int) - 1) ∧ (∀ (j : Nat) (x : UInt8), k ≤ j → l[j]? = some x → x ≠ c) ∧ w = wr) (fun i _ => (intOf i + 1).toNat)
  case atStart => exact ⟨n, Nat.le_refl _, rfl, fun j x hj hx => by have := (List.getElem?_eq_some_iff.1 hx).1; rw [HN.out] at this; omega, rfl⟩
  case round =>
    obtain ⟨k, hk, rfl, hall, rfl⟩ := hrel
    have HA := Lib.hid hall
    clear hall hsz
    rcases Nat.eq_zero_or_pos k with h0 | h0
    · subst h0
      have HD := Lib.hid (show lastN c l = -1 by unfold lastN; rw [last_none fun j x hx => HA.out j x (Nat.zero_le _) hx])
      go_wp2_with fail
      go_ret
      exact ⟨by rw [HD.out]; rfl, rfl⟩
    · obtain ⟨p, rfl⟩ : ∃ p, k = p + 1 := ⟨k - 1, by omega⟩
      obtain ⟨x, hx⟩ : ∃ x, l[p]? = some x := ⟨_, List.getElem?_eq_getElem (by rw [HN.out]; omega)⟩
      have HX := Lib.hid hx
      have x0 := st_index l p x hx
      have e1 : (((p + 1 : Nat) : Int) - 1) = (p : Int) := by omega
      rw [e1]
      have c0 : decide ((0 : Int) ≤ (p : Int)) = true := decide_eq_true (by omega)
      have p0 : (0 : Int) ≤ (p : Int) := by omega
      clear hx e1
      by_cases hc : x = c
      · have d1 : ((x.toNat : Int) == (c.toNat : Int)) = true := by rw [hc]; exact beq_iff_eq.2 rfl
        have HD := Lib.hid (show lastN c l = (p : Int) by unfold lastN; rw [last_some (hc ▸ HX.out) HA.out]; simp only [List.length_take]; have := HN.out; omega)
        clear hc
        go_wp2_with fail
        go_ret
        exact ⟨by rw [HD.out]; rfl, rfl⟩
      · have d1 : ((x.toNat : Int) == (c.toNat : Int)) = false := beq_eq_false_iff_ne.2 fun e => hc (UInt8.toNat_inj.1 (by omega))
        have HA2 := Lib.hid (show ∀ (j : Nat) (y : UInt8), p ≤ j → l[j]? = some y → y ≠ c from fun j y hj hy => by
          rcases Nat.lt_or_ge p j with h | h
          · exact HA.out j y h hy
          · obtain rfl : j = p := by omega
            rw [HX.out] at hy
            exact Option.some.inj hy ▸ hc)
        clear hc
        go_wp2_with fail
        go_roundw
        case rel => exact ⟨p, by omega, by go_num, HA2.out, by trivial⟩
        case measure => simp [intOf] <;> omega
end Go.Proofs.YtndekohimfjdeaaGreatDoor

namespace Go.Proofs.YtndekohimfjdeaaGreatDoor
open Go.RowKit
def noDot (s : ByteArray) (n : Nat) : Prop := 0 < n → ∀ h : 0 < s.size, (s[0]'h).toNat ≠ 46
theorem noDot_succ {s : ByteArray} {n : Nat} (h : noDot s n) (hn : n < s.size) (hc : n = 0 → (s[n]'hn).toNat ≠ 46) : noDot s (n + 1) := fun _ hk => by
  rcases Nat.eq_zero_or_pos n with rfl | h0
  · exact hc rfl
  · exact h h0 hk
set_option maxRecDepth 100000 in
set_option maxHeartbeats 4000000 in
theorem rname_v (s : ByteArray) (w : World) (hs : s.size ≤ 1000000) : Calls Tryz.prog 78 #[.string s] w fun e w' => e = .returned (.bool (nameL s.data.toList)) ∧ w = w' := by
  go_enter Tryz.func78, Tryz.ntmps78
  go_wp2_with fail
  go_loopw [3, 4] (fun i _ wr => ∃ k : Nat, i = .int .i64 (k : Int) ∧ k ≤ s.size ∧ allN s k ∧ noDot s k ∧ w = wr) (fun i _ _ => s.size - (intOf i).toNat)
  case atStart => exact ⟨0, rfl, Nat.zero_le _, fun k hk => by omega, fun h => by omega, rfl⟩
  case round =>
    obtain ⟨k, rfl, hk, hlow, hdot, rfl⟩ := hrel
    have HL := Lib.hid hlow
    have HT := Lib.hid hdot
    clear hlow hdot
    by_cases hlt : k < s.size
    case neg =>
      obtain rfl : k = s.size := by omega
      by_cases h1 : 1 ≤ s.size
      · have d1 : decide (1 ≤ s.size) = true := decide_eq_true h1
        have d1b : decide ((1 : Int) ≤ (s.size : Int)) = true := decide_eq_true (by omega)
        by_cases h2 : s.size ≤ 24
        · have d2 : decide (s.size ≤ 24) = true := decide_eq_true h2
          have d2b : decide ((s.size : Int) ≤ 24) = true := decide_eq_true (by omega)
          have HD := Lib.hid ((name_iff s).2 ⟨h1, h2, fun h => HT.out h1 h, HL.out⟩)
          clear h1 h2 hk hlt
          go_wp2_with fail
          go_ret
          exact ⟨by rw [HD.out]; rfl, rfl⟩
        · have d2 : decide (s.size ≤ 24) = false := decide_eq_false h2
          have d2b : decide ((s.size : Int) ≤ 24) = false := decide_eq_false (by omega)
          have HD := Lib.hid (name_false (s := s) fun h => h2 h.2.1)
          clear h1 h2 hk hlt
          go_wp2_with fail
          go_ret
          exact ⟨by rw [HD.out]; rfl, rfl⟩
      · have d1 : decide (1 ≤ s.size) = false := decide_eq_false h1
        have d1b : decide ((1 : Int) ≤ (s.size : Int)) = false := decide_eq_false (by omega)
        have HD := Lib.hid (name_false (s := s) fun h => h1 h.1)
        clear h1 hk hlt
        go_wp2_with fail
        go_ret
        exact ⟨by rw [HD.out]; rfl, rfl⟩
    have k0 : (0 : Int) ≤ (k : Int) := by omega
    obtain ⟨x, hx⟩ : ∃ x, (s[k]'hlt).toNat = x := ⟨_, rfl⟩
    have HX := Lib.hid hx
    have hxv : (0 ≤ x ∧ x ≤ 44) ∨ (45 ≤ x ∧ x ≤ 45) ∨ (46 ≤ x ∧ x ≤ 46) ∨ (47 ≤ x ∧ x ≤ 47) ∨ (48 ≤ x ∧ x ≤ 57) ∨ (58 ≤ x ∧ x ≤ 94) ∨ (95 ≤ x ∧ x ≤ 95) ∨ (96 ≤ x ∧ x ≤ 96) ∨ (97 ≤ x ∧ x ≤ 122) ∨ (123 ≤ x ∧ x ≤ 255) := by
      have := (s[k]'hlt).toNat_lt; omega
    clear hx
    rcases hxv with hxv | hxv | hxv | hxv | hxv | hxv | hxv | hxv | hxv | hxv
    · obtain ⟨g1, g2⟩ := hxv
      have d0 : decide ((((s[k]'hlt).toNat : Nat) : Int) < 97) = true := by rw [HX.out]; exact decide_eq_true (by omega)
      have d1 : decide (122 < (((s[k]'hlt).toNat : Nat) : Int)) = false := by rw [HX.out]; exact decide_eq_false (by omega)
      have d2 : decide ((((s[k]'hlt).toNat : Nat) : Int) < 48) = true := by rw [HX.out]; exact decide_eq_true (by omega)
      have d3 : decide (57 < (((s[k]'hlt).toNat : Nat) : Int)) = false := by rw [HX.out]; exact decide_eq_false (by omega)
      have e0 : ((((s[k]'hlt).toNat : Nat) : Int) != 45) = true := by rw [HX.out]; simp; omega
      have f0 : ((((s[k]'hlt).toNat : Nat) : Int) != 95) = true := by rw [HX.out]; simp; omega
      have g0 : ((((s[k]'hlt).toNat : Nat) : Int) != 46) = true := by rw [HX.out]; simp; omega
      have HD := Lib.hid (name_false (s := s) fun h => by have := nameC_iff.1 (h.2.2.2 k hlt hlt); rw [HX.out] at this; omega)
      clear g1 g2
      go_wp2_with fail
      go_ret
      exact ⟨by rw [HD.out]; rfl, rfl⟩
    · obtain ⟨g1, g2⟩ := hxv
      have d0 : decide ((((s[k]'hlt).toNat : Nat) : Int) < 97) = true := by rw [HX.out]; exact decide_eq_true (by omega)
      have d1 : decide (122 < (((s[k]'hlt).toNat : Nat) : Int)) = false := by rw [HX.out]; exact decide_eq_false (by omega)
      have d2 : decide ((((s[k]'hlt).toNat : Nat) : Int) < 48) = true := by rw [HX.out]; exact decide_eq_true (by omega)
      have d3 : decide (57 < (((s[k]'hlt).toNat : Nat) : Int)) = false := by rw [HX.out]; exact decide_eq_false (by omega)
      have e0 : ((((s[k]'hlt).toNat : Nat) : Int) != 45) = false := by rw [HX.out]; simp; omega
      have f0 : ((((s[k]'hlt).toNat : Nat) : Int) != 95) = true := by rw [HX.out]; simp; omega
      have g0 : ((((s[k]'hlt).toNat : Nat) : Int) != 46) = true := by rw [HX.out]; simp; omega
      have HN := Lib.hid (allN_succ HL.out hlt (nameC_iff.2 (by rw [HX.out]; omega)))
      have HU := Lib.hid (noDot_succ HT.out hlt (fun _ => by rw [HX.out]; omega))
      clear g1 g2
      go_wp2_with fail
      go_roundw
      case rel => exact ⟨k + 1, by go_num, hlt, HN.out, HU.out, by trivial⟩
      case measure => simp [intOf]; omega
    · obtain ⟨g1, g2⟩ := hxv
      have d0 : decide ((((s[k]'hlt).toNat : Nat) : Int) < 97) = true := by rw [HX.out]; exact decide_eq_true (by omega)
      have d1 : decide (122 < (((s[k]'hlt).toNat : Nat) : Int)) = false := by rw [HX.out]; exact decide_eq_false (by omega)
      have d2 : decide ((((s[k]'hlt).toNat : Nat) : Int) < 48) = true := by rw [HX.out]; exact decide_eq_true (by omega)
      have d3 : decide (57 < (((s[k]'hlt).toNat : Nat) : Int)) = false := by rw [HX.out]; exact decide_eq_false (by omega)
      have e0 : ((((s[k]'hlt).toNat : Nat) : Int) != 45) = true := by rw [HX.out]; simp; omega
      have f0 : ((((s[k]'hlt).toNat : Nat) : Int) != 95) = true := by rw [HX.out]; simp; omega
      have g0 : ((((s[k]'hlt).toNat : Nat) : Int) != 46) = false := by rw [HX.out]; simp; omega
      by_cases hk0 : k = 0
      · subst hk0
        have HD := Lib.hid (name_false (s := s) fun h => h.2.2.1 hlt (by rw [HX.out]; omega))
        clear g1 g2
        go_wp2_with fail
        go_ret
        exact ⟨by rw [HD.out]; rfl, rfl⟩
      · have z0 : ((k : Int) == 0) = false := beq_eq_false_iff_ne.2 (by omega)
        have HN := Lib.hid (allN_succ HL.out hlt (nameC_iff.2 (by rw [HX.out]; omega)))
        have HU := Lib.hid (noDot_succ HT.out hlt (fun h => absurd h hk0))
        clear g1 g2 hk0
        go_wp2_with fail
        go_roundw
        case rel => exact ⟨k + 1, by go_num, hlt, HN.out, HU.out, by trivial⟩
        case measure => simp [intOf]; omega
    · obtain ⟨g1, g2⟩ := hxv
      have d0 : decide ((((s[k]'hlt).toNat : Nat) : Int) < 97) = true := by rw [HX.out]; exact decide_eq_true (by omega)
      have d1 : decide (122 < (((s[k]'hlt).toNat : Nat) : Int)) = false := by rw [HX.out]; exact decide_eq_false (by omega)
      have d2 : decide ((((s[k]'hlt).toNat : Nat) : Int) < 48) = true := by rw [HX.out]; exact decide_eq_true (by omega)
      have d3 : decide (57 < (((s[k]'hlt).toNat : Nat) : Int)) = false := by rw [HX.out]; exact decide_eq_false (by omega)
      have e0 : ((((s[k]'hlt).toNat : Nat) : Int) != 45) = true := by rw [HX.out]; simp; omega
      have f0 : ((((s[k]'hlt).toNat : Nat) : Int) != 95) = true := by rw [HX.out]; simp; omega
      have g0 : ((((s[k]'hlt).toNat : Nat) : Int) != 46) = true := by rw [HX.out]; simp; omega
      have HD := Lib.hid (name_false (s := s) fun h => by have := nameC_iff.1 (h.2.2.2 k hlt hlt); rw [HX.out] at this; omega)
      clear g1 g2
      go_wp2_with fail
      go_ret
      exact ⟨by rw [HD.out]; rfl, rfl⟩
    · obtain ⟨g1, g2⟩ := hxv
      have d0 : decide ((((s[k]'hlt).toNat : Nat) : Int) < 97) = true := by rw [HX.out]; exact decide_eq_true (by omega)
      have d1 : decide (122 < (((s[k]'hlt).toNat : Nat) : Int)) = false := by rw [HX.out]; exact decide_eq_false (by omega)
      have d2 : decide ((((s[k]'hlt).toNat : Nat) : Int) < 48) = false := by rw [HX.out]; exact decide_eq_false (by omega)
      have d3 : decide (57 < (((s[k]'hlt).toNat : Nat) : Int)) = false := by rw [HX.out]; exact decide_eq_false (by omega)
      have e0 : ((((s[k]'hlt).toNat : Nat) : Int) != 45) = true := by rw [HX.out]; simp; omega
      have f0 : ((((s[k]'hlt).toNat : Nat) : Int) != 95) = true := by rw [HX.out]; simp; omega
      have g0 : ((((s[k]'hlt).toNat : Nat) : Int) != 46) = true := by rw [HX.out]; simp; omega
      have HN := Lib.hid (allN_succ HL.out hlt (nameC_iff.2 (by rw [HX.out]; omega)))
      have HU := Lib.hid (noDot_succ HT.out hlt (fun _ => by rw [HX.out]; omega))
      clear g1 g2
      go_wp2_with fail
      go_roundw
      case rel => exact ⟨k + 1, by go_num, hlt, HN.out, HU.out, by trivial⟩
      case measure => simp [intOf]; omega
    · obtain ⟨g1, g2⟩ := hxv
      have d0 : decide ((((s[k]'hlt).toNat : Nat) : Int) < 97) = true := by rw [HX.out]; exact decide_eq_true (by omega)
      have d1 : decide (122 < (((s[k]'hlt).toNat : Nat) : Int)) = false := by rw [HX.out]; exact decide_eq_false (by omega)
      have d2 : decide ((((s[k]'hlt).toNat : Nat) : Int) < 48) = false := by rw [HX.out]; exact decide_eq_false (by omega)
      have d3 : decide (57 < (((s[k]'hlt).toNat : Nat) : Int)) = true := by rw [HX.out]; exact decide_eq_true (by omega)
      have e0 : ((((s[k]'hlt).toNat : Nat) : Int) != 45) = true := by rw [HX.out]; simp; omega
      have f0 : ((((s[k]'hlt).toNat : Nat) : Int) != 95) = true := by rw [HX.out]; simp; omega
      have g0 : ((((s[k]'hlt).toNat : Nat) : Int) != 46) = true := by rw [HX.out]; simp; omega
      have HD := Lib.hid (name_false (s := s) fun h => by have := nameC_iff.1 (h.2.2.2 k hlt hlt); rw [HX.out] at this; omega)
      clear g1 g2
      go_wp2_with fail
      go_ret
      exact ⟨by rw [HD.out]; rfl, rfl⟩
    · obtain ⟨g1, g2⟩ := hxv
      have d0 : decide ((((s[k]'hlt).toNat : Nat) : Int) < 97) = true := by rw [HX.out]; exact decide_eq_true (by omega)
      have d1 : decide (122 < (((s[k]'hlt).toNat : Nat) : Int)) = false := by rw [HX.out]; exact decide_eq_false (by omega)
      have d2 : decide ((((s[k]'hlt).toNat : Nat) : Int) < 48) = false := by rw [HX.out]; exact decide_eq_false (by omega)
      have d3 : decide (57 < (((s[k]'hlt).toNat : Nat) : Int)) = true := by rw [HX.out]; exact decide_eq_true (by omega)
      have e0 : ((((s[k]'hlt).toNat : Nat) : Int) != 45) = true := by rw [HX.out]; simp; omega
      have f0 : ((((s[k]'hlt).toNat : Nat) : Int) != 95) = false := by rw [HX.out]; simp; omega
      have g0 : ((((s[k]'hlt).toNat : Nat) : Int) != 46) = true := by rw [HX.out]; simp; omega
      have HN := Lib.hid (allN_succ HL.out hlt (nameC_iff.2 (by rw [HX.out]; omega)))
      have HU := Lib.hid (noDot_succ HT.out hlt (fun _ => by rw [HX.out]; omega))
      clear g1 g2
      go_wp2_with fail
      go_roundw
      case rel => exact ⟨k + 1, by go_num, hlt, HN.out, HU.out, by trivial⟩
      case measure => simp [intOf]; omega
    · obtain ⟨g1, g2⟩ := hxv
      have d0 : decide ((((s[k]'hlt).toNat : Nat) : Int) < 97) = true := by rw [HX.out]; exact decide_eq_true (by omega)
      have d1 : decide (122 < (((s[k]'hlt).toNat : Nat) : Int)) = false := by rw [HX.out]; exact decide_eq_false (by omega)
      have d2 : decide ((((s[k]'hlt).toNat : Nat) : Int) < 48) = false := by rw [HX.out]; exact decide_eq_false (by omega)
      have d3 : decide (57 < (((s[k]'hlt).toNat : Nat) : Int)) = true := by rw [HX.out]; exact decide_eq_true (by omega)
      have e0 : ((((s[k]'hlt).toNat : Nat) : Int) != 45) = true := by rw [HX.out]; simp; omega
      have f0 : ((((s[k]'hlt).toNat : Nat) : Int) != 95) = true := by rw [HX.out]; simp; omega
      have g0 : ((((s[k]'hlt).toNat : Nat) : Int) != 46) = true := by rw [HX.out]; simp; omega
      have HD := Lib.hid (name_false (s := s) fun h => by have := nameC_iff.1 (h.2.2.2 k hlt hlt); rw [HX.out] at this; omega)
      clear g1 g2
      go_wp2_with fail
      go_ret
      exact ⟨by rw [HD.out]; rfl, rfl⟩
    · obtain ⟨g1, g2⟩ := hxv
      have d0 : decide ((((s[k]'hlt).toNat : Nat) : Int) < 97) = false := by rw [HX.out]; exact decide_eq_false (by omega)
      have d1 : decide (122 < (((s[k]'hlt).toNat : Nat) : Int)) = false := by rw [HX.out]; exact decide_eq_false (by omega)
      have d2 : decide ((((s[k]'hlt).toNat : Nat) : Int) < 48) = false := by rw [HX.out]; exact decide_eq_false (by omega)
      have d3 : decide (57 < (((s[k]'hlt).toNat : Nat) : Int)) = true := by rw [HX.out]; exact decide_eq_true (by omega)
      have e0 : ((((s[k]'hlt).toNat : Nat) : Int) != 45) = true := by rw [HX.out]; simp; omega
      have f0 : ((((s[k]'hlt).toNat : Nat) : Int) != 95) = true := by rw [HX.out]; simp; omega
      have g0 : ((((s[k]'hlt).toNat : Nat) : Int) != 46) = true := by rw [HX.out]; simp; omega
      have HN := Lib.hid (allN_succ HL.out hlt (nameC_iff.2 (by rw [HX.out]; omega)))
      have HU := Lib.hid (noDot_succ HT.out hlt (fun _ => by rw [HX.out]; omega))
      clear g1 g2
      go_wp2_with fail
      go_roundw
      case rel => exact ⟨k + 1, by go_num, hlt, HN.out, HU.out, by trivial⟩
      case measure => simp [intOf]; omega
    · obtain ⟨g1, g2⟩ := hxv
      have d0 : decide ((((s[k]'hlt).toNat : Nat) : Int) < 97) = false := by rw [HX.out]; exact decide_eq_false (by omega)
      have d1 : decide (122 < (((s[k]'hlt).toNat : Nat) : Int)) = true := by rw [HX.out]; exact decide_eq_true (by omega)
      have d2 : decide ((((s[k]'hlt).toNat : Nat) : Int) < 48) = false := by rw [HX.out]; exact decide_eq_false (by omega)
      have d3 : decide (57 < (((s[k]'hlt).toNat : Nat) : Int)) = true := by rw [HX.out]; exact decide_eq_true (by omega)
      have e0 : ((((s[k]'hlt).toNat : Nat) : Int) != 45) = true := by rw [HX.out]; simp; omega
      have f0 : ((((s[k]'hlt).toNat : Nat) : Int) != 95) = true := by rw [HX.out]; simp; omega
      have g0 : ((((s[k]'hlt).toNat : Nat) : Int) != 46) = true := by rw [HX.out]; simp; omega
      have HD := Lib.hid (name_false (s := s) fun h => by have := nameC_iff.1 (h.2.2.2 k hlt hlt); rw [HX.out] at this; omega)
      clear g1 g2
      go_wp2_with fail
      go_ret
      exact ⟨by rw [HD.out]; rfl, rfl⟩
end Go.Proofs.YtndekohimfjdeaaGreatDoor

namespace Go.Proofs.YtndekohimfjdeaaGreatDoor
open Go.RowKit
/-- How far the parts are found: all bytes ahead of k are read, the next part begins at f. -/
def NSt (l : Bl) (k f : Nat) (xs : List Bl) : Prop := (k ≤ l.length ∧ f ≤ k ∧ segs l = xs ++ segs (l.drop f) ∧ (47 : UInt8) ∉ (l.drop f).take (k - f)) ∨ (k = l.length + 1 ∧ xs = segs l)
theorem NSt.start (l : Bl) : NSt l 0 0 [] := .inl ⟨Nat.zero_le _, Nat.le_refl _, by simp, by simp⟩
theorem NSt.range {l : Bl} {k f : Nat} {xs : List Bl} (h : NSt l k f xs) (hk : k ≤ l.length) : f ≤ k := by
  rcases h with h | h
  · exact h.2.1
  · omega
theorem NSt.done {l : Bl} {k f : Nat} {xs : List Bl} (h : NSt l k f xs) (hk : ¬ k ≤ l.length) : k = l.length + 1 ∧ xs = segs l := by
  rcases h with h | h
  · exact absurd h.1 hk
  · exact h
theorem NSt.skip {l : Bl} {k f : Nat} {xs : List Bl} {x : UInt8} (h : NSt l k f xs) (hx : l[k]? = some x) (hc : x ≠ 47) : NSt l (k + 1) f xs := by
  have hk := (List.getElem?_eq_some_iff.1 hx).1
  rcases h with ⟨h1, h2, h3, h4⟩ | ⟨h1, _⟩
  · refine .inl ⟨hk, by omega, h3, fun hm => ?_⟩
    rw [show k + 1 - f = k - f + 1 by omega, List.take_add_one, List.mem_append] at hm
    rcases hm with hm | hm
    · exact h4 hm
    · rw [List.getElem?_drop, show f + (k - f) = k by omega, hx] at hm
      have h5 : (47 : UInt8) = x := by simpa using hm
      exact hc h5.symm
  · omega
theorem NSt.hit {l : Bl} {k f : Nat} {xs : List Bl} (h : NSt l k f xs) (hx : l[k]? = some 47) : NSt l (k + 1) (k + 1) (xs ++ [(l.drop f).take (k - f)]) := by
  have hk := (List.getElem?_eq_some_iff.1 hx).1
  rcases h with ⟨h1, h2, h3, h4⟩ | ⟨h1, _⟩
  · refine .inl ⟨hk, Nat.le_refl _, ?_, by simp⟩
    have e : l.drop f = (l.drop f).take (k - f) ++ 47 :: l.drop (k + 1) := by
      have h5 := List.drop_eq_getElem_cons hk
      rw [(List.getElem?_eq_some_iff.1 hx).2] at h5
      rw [← h5]
      have h6 : (l.drop f).drop (k - f) = l.drop k := by rw [List.drop_drop, show f + (k - f) = k by omega]
      rw [← h6, List.take_append_drop]
    rw [h3]
    conv => lhs; rw [e, segs_first h4]
    simp
  · omega
theorem NSt.last {l : Bl} {f : Nat} {xs : List Bl} (h : NSt l l.length f xs) : NSt l (l.length + 1) (l.length + 1) (xs ++ [(l.drop f).take (l.length - f)]) := by
  rcases h with ⟨h1, h2, h3, h4⟩ | ⟨h1, _⟩
  · refine .inr ⟨rfl, ?_⟩
    have e : (l.drop f).take (l.length - f) = l.drop f := List.take_of_length_le (by rw [List.length_drop]; exact Nat.le_refl _)
    rw [e] at h4 ⊢
    rw [h3, segs_one h4]
  · omega
theorem st_mid (l : Bl) (f k : Nat) : (st l).extract f k = st ((l.drop f).take (k - f)) := st_ext (by
  simp only [st, ByteArray.data_extract, Array.toList_extract, List.extract_eq_take_drop])
set_option maxRecDepth 100000 in
set_option maxHeartbeats 4000000 in
theorem rnames_v (l : Bl) (w : World) (hs : l.length ≤ 1000) : Calls Tryz.prog 77 #[.string (st l)] w fun e w' => ∃ A c, e = .returned (.slice A (segs l).length c) ∧ SOwn w' w.heap.size A (segs l).length c ((segs l).map st) ∧ Below w.heap.size w w' := by
  obtain ⟨n, hn⟩ : ∃ n, (st l).size = n := ⟨_, rfl⟩
  have HN := Lib.hid (show l.length = n by rw [← hn, st_size])
  have hsz : ((st l).size : Int) = (n : Int) := by rw [hn]
  clear hn
  have hn6 : n ≤ 1000 := by rw [← HN.out]; exact hs
  go_enter Tryz.func77, Tryz.ntmps77
  go_wp2_with fail
  go_loopw [3, 4, 5] (fun o f i wr => ∃ (k p c : Nat) (A : Option Addr) (xs : List Bl), i = .int .i64 (k : Int) ∧ f = .int .i64 (p : Int) ∧ o = .slice A xs.length c ∧ xs.length ≤ k ∧ k ≤ n + 1 ∧ NSt l k p xs ∧ SOwn wr w.heap.size A xs.length c (xs.map st) ∧ Below w.heap.size w wr) (fun _ _ i _ => n + 1 - (intOf i).toNat)
  case atStart => exact ⟨0, 0, 0, none, [], rfl, rfl, rfl, Nat.le_refl _, Nat.zero_le _, NSt.start l, SOwn.nil_ w _, Below.refl _ _⟩
  case round =>
    obtain ⟨k, p, c, A, xs, rfl, rfl, rfl, hxk, hk, hst, ho, hb⟩ := hrel
    have HST := Lib.hid hst
    have HO := Lib.hid ho
    have HB := Lib.hid hb
    have hzb := hb.size
    clear hst ho hb
    by_cases hlt : k ≤ n
    · have hpk : p ≤ k := HST.out.range (by rw [HN.out]; exact hlt)
      have c0 : decide ((k : Int) ≤ (n : Int)) = true := decide_eq_true (by omega)
      have k0 : (0 : Int) ≤ (k : Int) := by omega
      have p0 : (0 : Int) ≤ (p : Int) := by omega
      have p1 : (p : Int) ≤ (k : Int) := by omega
      have p2 : (k : Int) ≤ (n : Int) := by omega
      by_cases hkn : k = n
      · have c1 : ((k : Int) == (n : Int)) = true := beq_iff_eq.2 (by omega)
        have HNX := Lib.hid (show NSt l (k + 1) (k + 1) (xs ++ [(l.drop p).take (k - p)]) by have h := HST.out; rw [hkn, ← HN.out] at h ⊢; exact h.last)
        have e1 := st_mid l p k
        clear hkn
        generalize (l.drop p).take (k - p) = y at *
        have HSO := Lib.hid (show SReads (wr.alloc (.cells #[.string (st y)] 9)) (wr.heap.size + 1) (some ⟨wr.heap.size, 0, none⟩) 1 [st y] from SReads.one 9 wr (st y))
        have HLL := Lib.hid (show xs.map st ++ [st y] = (xs ++ [y]).map st by simp)
        have HLN := Lib.hid (show xs.length + 1 = (xs ++ [y]).length by simp)
        go_upto_region 8 with (first
          | (at_builtin; go_loud (refine wpList_appS rfl (.tmp 22) (.tmp 27) rfl w.heap.size A xs.length c _ rfl (HO.out.alloc _) (wr.heap.size + 1) (some ⟨wr.heap.size, 0, none⟩) 1 1 [st y] rfl HSO.out _ _ HLN.out HLL.out (by simp; omega) (by simp; omega) ?_); intro A7 c7 w7 ho7 hg7)
          | fail)
        have HB7 := Lib.hid (sown_app (HB.out.alloc (by omega) (.cells #[.string (st y)] 9)) hg7 (HO.out.alloc _) (Nat.le_refl _) (by simp; omega))
        have HO7 := Lib.hid ho7
        have hxl : (xs ++ [y]).length ≤ k + 1 := by rw [List.length_append]; simp; omega
        clear ho7 hg7
        have HL2 := Lib.hid (show (xs ++ [y]).length = xs.length + 1 by simp)
        generalize xs ++ [y] = xs2 at *
        go_wp2_with fail
        go_roundw
        case rel => exact ⟨k + 1, k + 1, c7, A7, xs2, by go_num, by go_num, by rw [HL2.out], hxl, by omega, HNX.out, HO7.out, HB7.out⟩
        case measure => simp [intOf]; omega
      · have c1 : ((k : Int) == (n : Int)) = false := beq_eq_false_iff_ne.2 (by omega)
        obtain ⟨x, hx⟩ : ∃ x, l[k]? = some x := ⟨_, List.getElem?_eq_getElem (by rw [HN.out]; omega)⟩
        have HX := Lib.hid hx
        have x0 := st_index l k x hx
        clear hx
        by_cases hc : x = 47
        · have d1 : ((x.toNat : Int) == 47) = true := by rw [hc]; rfl
          have HNX := Lib.hid (HST.out.hit (hc ▸ HX.out))
          have e1 := st_mid l p k
          have hkn2 : k < n := by omega
          clear hc hkn
          generalize (l.drop p).take (k - p) = y at *
          have HSO := Lib.hid (show SReads (wr.alloc (.cells #[.string (st y)] 9)) (wr.heap.size + 1) (some ⟨wr.heap.size, 0, none⟩) 1 [st y] from SReads.one 9 wr (st y))
          have HLL := Lib.hid (show xs.map st ++ [st y] = (xs ++ [y]).map st by simp)
          have HLN := Lib.hid (show xs.length + 1 = (xs ++ [y]).length by simp)
          go_upto_region 8 with (first
            | (at_builtin; go_loud (refine wpList_appS rfl (.tmp 22) (.tmp 27) rfl w.heap.size A xs.length c _ rfl (HO.out.alloc _) (wr.heap.size + 1) (some ⟨wr.heap.size, 0, none⟩) 1 1 [st y] rfl HSO.out _ _ HLN.out HLL.out (by simp; omega) (by simp; omega) ?_); intro A7 c7 w7 ho7 hg7)
            | fail)
          have HB7 := Lib.hid (sown_app (HB.out.alloc (by omega) (.cells #[.string (st y)] 9)) hg7 (HO.out.alloc _) (Nat.le_refl _) (by simp; omega))
          have HO7 := Lib.hid ho7
          have hxl : (xs ++ [y]).length ≤ k + 1 := by rw [List.length_append]; simp; omega
          clear ho7 hg7
          have HL2 := Lib.hid (show (xs ++ [y]).length = xs.length + 1 by simp)
          generalize xs ++ [y] = xs2 at *
          go_wp2_with fail
          go_roundw
          case rel => exact ⟨k + 1, k + 1, c7, A7, xs2, by go_num, by go_num, by rw [HL2.out], hxl, by omega, HNX.out, HO7.out, HB7.out⟩
          case measure => simp [intOf]; omega
        · have d1 : ((x.toNat : Int) == 47) = false := beq_eq_false_iff_ne.2 fun e => hc (UInt8.toNat_inj.1 (by
            have : (47 : UInt8).toNat = 47 := rfl
            omega))
          have HNX := Lib.hid (HST.out.skip HX.out hc)
          clear hc
          go_wp2_with fail
          go_roundw
          case rel => exact ⟨k + 1, p, c, A, xs, by go_num, rfl, rfl, by omega, by omega, HNX.out, HO.out, HB.out⟩
          case measure => simp [intOf]; omega
    · have c0 : decide ((k : Int) ≤ (n : Int)) = false := decide_eq_false (by omega)
      obtain ⟨_, rfl⟩ := HST.out.done (by rw [HN.out]; exact hlt)
      go_wp2_with fail
      go_ret
      exact ⟨A, c, rfl, HO.out, HB.out⟩
set_option maxRecDepth 100000 in
set_option maxHeartbeats 4000000 in
theorem prcheck_v (l : Bl) (w : World) : Calls Tryz.prog 54 #[.string (st l)] w fun e w' => e = .returned (.int .i64 (checkL l : Int)) ∧ Below w.heap.size w w' := by
  have hz := st_size l
  by_cases h : 64 < l.length
  · have HC := Lib.hid (show checkL l = 3 by unfold checkL; rw [if_pos h])
    have d1 : decide ((64 : Int) < ((st l).size : Int)) = true := decide_eq_true (by omega)
    clear hz
    go_enter Tryz.func54, Tryz.ntmps54
    go_wp2_with fail
    go_ret
    exact ⟨by rw [HC.out]; rfl, Below.refl _ _⟩
  have d1 : decide ((64 : Int) < ((st l).size : Int)) = false := decide_eq_false (by omega)
  have HC := Lib.hid (show checkL l = if prightL l then 0 else 2 by unfold checkL; rw [if_neg h])
  have HLE := Lib.hid (show l.length ≤ 64 by omega)
  have NV := rnames_v l w (by omega)
  clear hz h
  obtain ⟨n, hn⟩ : ∃ n, (segs l).length = n := ⟨_, rfl⟩
  have HN := Lib.hid hn
  rw [hn] at NV
  clear hn
  go_enter Tryz.func54, Tryz.ntmps54
  go_wp2_with fail
  refine NV.mono ?_
  rintro e w1 ⟨A, c, rfl, ho, hb⟩
  have HB := Lib.hid hb
  have HR := Lib.hid ho.reads
  have hnc : n ≤ 1000000 := by
    have h1 : ∀ l : Bl, (segs l).length ≤ l.length + 1 := fun l => by
      induction l with
      | nil => simp [segs]
      | cons c l ih =>
        unfold segs
        split
        · simp; omega
        · split
          · rename_i s r hsr
            rw [hsr] at ih
            simp at ih ⊢
            omega
          · simp
    have := h1 l
    have := HLE.out
    have := HN.out
    omega
  clear ho hb NV
  go_wp2_with fail
  go_loopw [4] (fun i V => ∃ k : Nat, k ≤ n ∧ i = .int .i64 (k : Int) ∧ (∀ x ∈ (segs l).take k, nameL x = true) ∧ V = w1) (fun i _ => n - (intOf i).toNat)
  case atStart => exact ⟨0, Nat.zero_le _, rfl, by simp, rfl⟩
  case round =>
    obtain ⟨k, hk, rfl, hall, rfl⟩ := hrel
    have HA := Lib.hid hall
    clear hall
    by_cases hlt : k < n
    · obtain ⟨ad, d, rfl, hd, hc⟩ := HR.out.at_ hlt
      obtain ⟨x, hx⟩ : ∃ x, (segs l)[k]? = some x := ⟨_, List.getElem?_eq_getElem (by rw [HN.out]; exact hlt)⟩
      rw [List.getElem?_map, hx] at hd
      obtain rfl : st x = d := Option.some.inj hd
      have c0 := hc wr (Below.refl _ _)
      have k0 : (0 : Int) ≤ (k : Int) := by omega
      have k1 : (k : Int) < (n : Int) := by omega
      have HX := Lib.hid hx
      clear hx hd hc
      have NV := rname_v (st x) wr (by have := segs_len l x (List.mem_of_getElem? HX.out); have := HLE.out; rw [st_size]; omega)
      rw [st_data] at NV
      go_wp2_with fail
      refine NV.mono ?_
      rintro e _ ⟨rfl, rfl⟩
      clear c0 NV
      cases hnx : nameL x with
      | false =>
        have HR := Lib.hid (show prightL l = false from Bool.eq_false_iff.2 fun h => by
          have := (right_iff.1 h).1 x (List.mem_of_getElem? HX.out)
          rw [hnx] at this
          cases this)
        clear hnx
        go_wp2_with fail
        go_ret
        exact ⟨by rw [HC.out, HR.out]; rfl, HB.out⟩
      | true =>
        have HA2 := Lib.hid (show ∀ y ∈ (segs l).take (k + 1), nameL y = true from fun y hy => by
          rw [List.take_add_one, HX.out] at hy
          rcases List.mem_append.1 hy with hy | hy
          · exact HA.out y hy
          · obtain rfl : y = x := by simpa using hy
            exact hnx)
        clear hnx
        go_wp2_with fail
        go_roundw
        case rel => exact ⟨k + 1, hlt, by go_num, HA2.out, by trivial⟩
        case measure => simp [intOf]; omega
    · obtain rfl : k = n := by omega
      have HA2 := Lib.hid (show ∀ y ∈ segs l, nameL y = true by have h := HA.out; rwa [List.take_of_length_le (by rw [HN.out]; exact Nat.le_refl _)] at h)
      by_cases h4 : k ≤ 4
      · have d2 : decide ((4 : Int) < (k : Int)) = false := decide_eq_false (by omega)
        have HR2 := Lib.hid (show checkL l = 0 by rw [HC.out, right_iff.2 ⟨HA2.out, by rw [HN.out]; exact h4, HLE.out⟩]; rfl)
        clear h4
        go_wp2_with fail
        go_ret
        exact ⟨by rw [HR2.out]; rfl, HB.out⟩
      · have d2 : decide ((4 : Int) < (k : Int)) = true := decide_eq_true (by omega)
        have HR2 := Lib.hid (show checkL l = 2 by rw [HC.out, if_neg (fun h => h4 (by rw [← HN.out]; exact (right_iff.1 h).2.1))])
        clear h4
        go_wp2_with fail
        go_ret
        exact ⟨by rw [HR2.out]; rfl, HB.out⟩
end Go.Proofs.YtndekohimfjdeaaGreatDoor

namespace Go.Proofs.YtndekohimfjdeaaGreatDoor
open Go.RowKit
theorem cell_nw (w : World) (cs : Array Value) (t : TypeId) (j : Nat) : (w.alloc (.cells cs t)).cell? ⟨w.heap.size, j, none⟩ = cs[j]? := by
  rw [cell_of_row _ _ j _ t (0, 0) (heap_alloc_new w _)]
end Go.Proofs.YtndekohimfjdeaaGreatDoor

namespace Go.Proofs.YtndekohimfjdeaaGreatDoor
/-- A tree of orders: 'one i e t': number i next (e: it may change the world, and nothing else can come up); 'two i ti j tj': i or j next, both may change the world. -/
inductive SK where
  | done : SK
  | one (i : Nat) (e : Bool) (t : SK) : SK
  | two (i : Nat) (ti : SK) (j : Nat) (tj : SK) : SK
def SK.len : SK → Nat
  | .done => 0
  | .one _ _ t => t.len + 1
  | .two _ ti _ _ => ti.len + 1
def SK.ok (ops : Array Oper) : SK → Array Bool → Bool
  | .done, listed => (Region.ready .any ops listed).isEmpty
  | .one i e t, listed => (if e then Region.ready .any ops listed == [i] else Region.free .any ops listed i && (Region.ready .any ops listed).contains i) && t.ok ops (listed.setIfInBounds i true)
  | .two i ti j tj, listed => Region.ready .any ops listed == [i, j] && ti.len == tj.len && ti.ok ops (listed.setIfInBounds i true) && tj.ok ops (listed.setIfInBounds j true)
section
variable {P : Program} {ops : Array Oper} {Q : Exit → Act → World → Prop} {S : World → Prop}
def TR (P : Program) (ops : Array Oper) (Q : Exit → Act → World → Prop) (S : World → Prop) (t : SK) (a : Act) (w : World) : Prop :=
  ∀ listed, Region.noSelect ops = true → t.ok ops listed = true → wpAnyH P .any ops Q S t.len listed a w
variable {t ti tj : SK} {i j : Nat} {a : Act} {w : World}
theorem TR.done (h : Q .normal a w) : TR P ops Q S .done a w := by
  intro listed _ hs
  refine wpAnyH_done ?_ h 0
  simpa [SK.ok] using hs
theorem TR.val {v : Value} (o : Oper) (ho : ops[i]? = some o) (hQ : ∀ c a w, Q (.panic c) (a.put o.dst v) w → Q (.panic c) a w) (hy : YieldsIf P ops S o v a) (hS : S w) (h : TR P ops Q S t (a.put o.dst v) w) :
    TR P ops Q S (.one i false t) a w := by
  intro listed hn hs
  simp only [SK.ok, Bool.false_eq_true, if_false, Bool.and_eq_true] at hs
  exact wpAnyH_take ho hn hs.1.1 hs.1.2 hQ hy hS (h _ hn hs.2)
theorem TR.val2 {v : Value} (o : Oper) (ho : ops[i]? = some o) (hw : Region.wanted o (yielded ops a.tmps) = true) (hy : ∀ w, S w → (execOp a.eval o).run P w = .ok (.value v) w)
    (hQ : ∀ c a w, Q (.panic c) (a.put o.dst v) w → Q (.panic c) a w) (hS : S w) (h : TR P ops Q S t (a.put o.dst v) w) : TR P ops Q S (.one i false t) a w := TR.val o ho hQ (.inl ⟨hw, hy⟩) hS h
/-- An operation that is not wanted. -/
theorem TR.skip (o : Oper) (ho : ops[i]? = some o) (hw : Region.wanted o (yielded ops a.tmps) = false)
    (hQ : ∀ c a w, Q (.panic c) (a.put o.dst undef) w → Q (.panic c) a w) (hS : S w) (h : TR P ops Q S t (a.put o.dst undef) w) : TR P ops Q S (.one i false t) a w :=
  TR.val o ho hQ (.inr ⟨hw, rfl⟩) hS h
theorem TR.eff (o : Oper) (ho : ops[i]? = some o) (hw : Region.wanted o (yielded ops a.tmps) = true)
    (h : ∀ K : Act → World → Prop, RowKit.Hid (∀ a' w', S w' → TR P ops Q S t a' w' → K a' w') → Oper.wp P o a w K Q) : TR P ops Q S (.one i true t) a w := by
  intro listed hn hs
  simp only [SK.ok, if_true, Bool.and_eq_true, beq_iff_eq] at hs
  refine wpAnyH_all hs.1 (by simp) fun j hj => ?_
  obtain rfl : j = i := by simpa using hj
  unfold wpOp
  simp only [ho, hw, if_true]
  exact .inl (h _ fun a' w' hS' hT => ⟨hS', hT _ hn hs.2⟩)
theorem TR.two (o o' : Oper) (ho : ops[i]? = some o) (ho' : ops[j]? = some o') (hw : Region.wanted o (yielded ops a.tmps) = true) (hw' : Region.wanted o' (yielded ops a.tmps) = true)
    (h : ∀ K : Act → World → Prop, RowKit.Hid (∀ a' w', S w' → TR P ops Q S ti a' w' → K a' w') → Oper.wp P o a w K Q)
    (h' : ∀ K : Act → World → Prop, RowKit.Hid (∀ a' w', S w' → TR P ops Q S tj a' w' → K a' w') → Oper.wp P o' a w K Q) : TR P ops Q S (.two i ti j tj) a w := by
  intro listed hn hs
  simp only [SK.ok, Bool.and_eq_true, beq_iff_eq] at hs
  obtain ⟨⟨⟨h1, h2⟩, h3⟩, h4⟩ := hs
  show wpAnyH P .any ops Q S (ti.len + 1) listed a w
  refine wpAnyH_all h1 (by simp) fun k hk => ?_
  rcases (show k = i ∨ k = j by simpa using hk) with rfl | rfl
  · unfold wpOp
    simp only [ho, hw, if_true]
    exact .inl (h _ fun a' w' hS' hT => ⟨hS', hT _ hn h3⟩)
  · unfold wpOp
    simp only [ho', hw', if_true]
    exact .inl (h' _ fun a' w' hS' hT => ⟨hS', by have := hT _ hn h4; rwa [← h2] at this⟩)
/-- More is kept from here on. -/
theorem TR.now (S' : World → Prop) (hSS : ∀ W, S' W → S W) (h : TR P ops Q S' t a w) : TR P ops Q S t a w :=
  fun listed hn hs => wpAnyH_mono hSS _ _ _ _ (h listed hn hs)
/-- The beginning. -/
theorem wp_region_tree {id : Nat} {ol : List Oper} {a : Act} {w : World} (t : SK) (S : World → Prop) (hm : P.follows .mixedOrders = true) (hl : t.len = ol.length) (hn : Region.noSelect ol.toArray = true)
    (hs : t.ok ol.toArray (Array.replicate ol.length false) = true) (h : TR P ol.toArray Q S t a w.drew) : (Code.region id ol.toArray true).wp P Q a w := by
  refine wp_region_held (S := S) hm ?_
  have h2 := h (Array.replicate ol.length false) hn hs
  rw [hl] at h2
  exact h2
end
end Go.Proofs.YtndekohimfjdeaaGreatDoor

namespace Go.Proofs.YtndekohimfjdeaaGreatDoor
open Go.RowKit Go.Shelf
abbrev I64 (a : Int) : Prop := (Lit.int .i64 a).wf = true
/-- A digest: 32 numbers. -/
abbrev Dg := { d : List Nat // d.length = 32 }
def Dg.cells (d : Dg) : List Value := d.1.map fun x : Nat => Value.int .u8 (x : Int)
theorem Dg.cells_len (d : Dg) : d.cells.length = 32 := by simp [Dg.cells, d.2]
/-- Whether a list may be. -/
def chk (s l : Int) (n : Nat) : Nat :=
  if 4194304 < l then 3 else if 1024 < n then 3 else if s < 1 then 2 else if 65536 < s then 2 else if l < 0 then 2 else if (l + s - 1) / s = (n : Int) then 0 else 2
theorem chk_ok {s l : Int} {n : Nat} (h : chk s l n = 0) : 1 ≤ s ∧ s ≤ 65536 ∧ 0 ≤ l ∧ l ≤ 4194304 ∧ n ≤ 1024 ∧ (l + s - 1) / s = (n : Int) := by
  unfold chk at h
  split at h
  · cases h
  · split at h
    · cases h
    · split at h
      · cases h
      · split at h
        · cases h
        · split at h
          · cases h
          · split at h
            · refine ⟨by omega, by omega, by omega, by omega, by omega, by assumption⟩
            · cases h
set_option maxHeartbeats 1000000 in
theorem count_v (l s : Int) (w : World) (hl : 0 ≤ l) (hl2 : l ≤ 1125899906842624) (hs : 1 ≤ s) (hs2 : s ≤ 1125899906842624) :
    Calls Tryz.prog 75 #[.int .i64 l, .int .i64 s] w fun e w' => e = .returned (.int .i64 ((l + s - 1) / s)) ∧ w = w' := by
  have h0 : (l + s - 1).tdiv s = (l + s - 1) / s := Int.tdiv_eq_ediv_of_nonneg (by omega)
  have h1 : 0 ≤ (l + s - 1) / s := Int.ediv_nonneg (by omega) (by omega)
  have h2 : (l + s - 1) / s ≤ l + s - 1 := Int.ediv_le_self _ (by omega)
  have hs0 : s ≠ 0 := by omega
  have hs1 : s ≠ -1 := by omega
  go_enter Tryz.func75, Tryz.ntmps75
  go_wp2
  go_ret
  exact ⟨ret_int rfl, rfl⟩
set_option maxRecDepth 100000 in
set_option maxHeartbeats 4000000 in
theorem bcheck_v (s l : Int) (A : Option Addr) (n c : Nat) (w : World) (hn : n ≤ 9007199254740992) :
    Calls Tryz.prog 49 #[.agg #[.int .i64 s, .int .i64 l, .slice A n c]] w fun e w' => e = .returned (.int .i64 (chk s l n : Int)) ∧ Below w.heap.size w w' := by
  have BA := Lib.hid ((Below.refl w.heap.size w).alloc (Nat.le_refl _) (.cells #[.int .i64 s, .int .i64 l, .slice A n c] 25))
  have c0 := cell_nw w #[.int .i64 s, .int .i64 l, .slice A n c] 25 0
  have c1 := cell_nw w #[.int .i64 s, .int .i64 l, .slice A n c] 25 1
  have c2 := cell_nw w #[.int .i64 s, .int .i64 l, .slice A n c] 25 2
  go_enter Tryz.func49, Tryz.ntmps49
  by_cases h1 : 4194304 < l
  · have d1 : decide (4194304 < l) = true := by simpa using h1
    have HR := Lib.hid (show chk s l n = 3 by unfold chk; rw [if_pos h1])
    go_wp2
    go_ret
    exact ⟨by rw [HR.out]; rfl, BA.out⟩
  · have d1 : decide (4194304 < l) = false := by simpa using h1
    by_cases h2 : 1024 < n
    · have d2 : decide (1024 < n) = true := by simpa using h2
      have HR := Lib.hid (show chk s l n = 3 by unfold chk; rw [if_neg h1, if_pos h2])
      go_wp2
      go_ret
      exact ⟨by rw [HR.out]; rfl, BA.out⟩
    · have d2 : decide (1024 < n) = false := by simpa using h2
      by_cases h3 : s < 1
      · have d3 : decide (s < 1) = true := by simpa using h3
        have HR := Lib.hid (show chk s l n = 2 by unfold chk; rw [if_neg h1, if_neg h2, if_pos h3])
        go_upto_region 3 with fail
        go_quiet (fail)
        go_wp2
        go_ret
        exact ⟨by rw [HR.out]; rfl, below_drewN BA.out _⟩
      · have d3 : decide (s < 1) = false := by simpa using h3
        by_cases h4 : 65536 < s
        · have d4 : decide (65536 < s) = true := by simpa using h4
          have HR := Lib.hid (show chk s l n = 2 by unfold chk; rw [if_neg h1, if_neg h2, if_neg h3, if_pos h4])
          go_upto_region 3 with fail
          go_quiet (fail)
          go_wp2
          go_ret
          exact ⟨by rw [HR.out]; rfl, below_drewN BA.out _⟩
        · have d4 : decide (65536 < s) = false := by simpa using h4
          by_cases h5 : l < 0
          · have d5 : decide (l < 0) = true := by simpa using h5
            have HR := Lib.hid (show chk s l n = 2 by unfold chk; rw [if_neg h1, if_neg h2, if_neg h3, if_neg h4, if_pos h5])
            go_upto_region 3 with fail
            go_quiet (fail)
            go_wp2
            go_ret
            exact ⟨by rw [HR.out]; rfl, below_drewN BA.out _⟩
          · have d5 : decide (l < 0) = false := by simpa using h5
            have CV := Lib.hid (fun W => count_v l s W (by omega) (by omega) (by omega) (by omega))
            obtain ⟨q, hq⟩ : ∃ q, (l + s - 1) / s = q := ⟨_, rfl⟩
            rw [hq] at CV
            by_cases h6 : q = (n : Int)
            · have d6 : (q != (n : Int)) = false := by simpa using h6
              have HR := Lib.hid (show chk s l n = 0 by unfold chk; rw [if_neg h1, if_neg h2, if_neg h3, if_neg h4, if_neg h5, hq, if_pos h6])
              clear h6 hq
              go_upto_region 3 with fail
              go_quiet ((go_at_call 75; exact quiet_left (CV.out _)))
              go_wp2
              go_ret
              exact ⟨by rw [HR.out]; rfl, below_drewN BA.out _⟩
            · have d6 : (q != (n : Int)) = true := by simpa using h6
              have HR := Lib.hid (show chk s l n = 2 by unfold chk; rw [if_neg h1, if_neg h2, if_neg h3, if_neg h4, if_neg h5, hq, if_neg h6])
              clear h6 hq
              go_upto_region 3 with fail
              go_quiet ((go_at_call 75; exact quiet_left (CV.out _)))
              go_wp2
              go_ret
              exact ⟨by rw [HR.out]; rfl, below_drewN BA.out _⟩
set_option maxHeartbeats 1000000 in
theorem rcount_v (l s : Int) (w : World) (hl : 0 ≤ l) (hl2 : l ≤ 1125899906842624) (hs : 1 ≤ s) (hs2 : s ≤ 1125899906842624) :
    Calls Tryz.prog 79 #[.int .i64 l, .int .i64 s] w fun e w' => e = .returned (.int .i64 ((l + s - 1) / s)) ∧ w = w' := by
  have h0 : (l + s - 1).tdiv s = (l + s - 1) / s := Int.tdiv_eq_ediv_of_nonneg (by omega)
  have h1 : 0 ≤ (l + s - 1) / s := Int.ediv_nonneg (by omega) (by omega)
  have h2 : (l + s - 1) / s ≤ l + s - 1 := Int.ediv_le_self _ (by omega)
  have hs0 : s ≠ 0 := by omega
  have hs1 : s ≠ -1 := by omega
  go_enter Tryz.func79, Tryz.ntmps79
  go_wp2
  go_ret
  exact ⟨ret_int rfl, rfl⟩
set_option maxRecDepth 100000 in
set_option maxHeartbeats 4000000 in
theorem brcheck_v (s l : Int) (A : Option Addr) (n c : Nat) (w : World) (hn : n ≤ 9007199254740992) :
    Calls Tryz.prog 55 #[.agg #[.int .i64 s, .int .i64 l, .slice A n c]] w fun e w' => e = .returned (.int .i64 (chk s l n : Int)) ∧ Below w.heap.size w w' := by
  have BA := Lib.hid ((Below.refl w.heap.size w).alloc (Nat.le_refl _) (.cells #[.int .i64 s, .int .i64 l, .slice A n c] 25))
  have c0 := cell_nw w #[.int .i64 s, .int .i64 l, .slice A n c] 25 0
  have c1 := cell_nw w #[.int .i64 s, .int .i64 l, .slice A n c] 25 1
  have c2 := cell_nw w #[.int .i64 s, .int .i64 l, .slice A n c] 25 2
  go_enter Tryz.func55, Tryz.ntmps55
  by_cases h1 : 4194304 < l
  · have d1 : decide (4194304 < l) = true := by simpa using h1
    have HR := Lib.hid (show chk s l n = 3 by unfold chk; rw [if_pos h1])
    go_wp2
    go_ret
    exact ⟨by rw [HR.out]; rfl, BA.out⟩
  · have d1 : decide (4194304 < l) = false := by simpa using h1
    by_cases h2 : 1024 < n
    · have d2 : decide (1024 < n) = true := by simpa using h2
      have HR := Lib.hid (show chk s l n = 3 by unfold chk; rw [if_neg h1, if_pos h2])
      go_wp2
      go_ret
      exact ⟨by rw [HR.out]; rfl, BA.out⟩
    · have d2 : decide (1024 < n) = false := by simpa using h2
      by_cases h3 : s < 1
      · have d3 : decide (s < 1) = true := by simpa using h3
        have HR := Lib.hid (show chk s l n = 2 by unfold chk; rw [if_neg h1, if_neg h2, if_pos h3])
        go_upto_region 3 with fail
        go_quiet (fail)
        go_wp2
        go_ret
        exact ⟨by rw [HR.out]; rfl, below_drewN BA.out _⟩
      · have d3 : decide (s < 1) = false := by simpa using h3
        by_cases h4 : 65536 < s
        · have d4 : decide (65536 < s) = true := by simpa using h4
          have HR := Lib.hid (show chk s l n = 2 by unfold chk; rw [if_neg h1, if_neg h2, if_neg h3, if_pos h4])
          go_upto_region 3 with fail
          go_quiet (fail)
          go_wp2
          go_ret
          exact ⟨by rw [HR.out]; rfl, below_drewN BA.out _⟩
        · have d4 : decide (65536 < s) = false := by simpa using h4
          by_cases h5 : l < 0
          · have d5 : decide (l < 0) = true := by simpa using h5
            have HR := Lib.hid (show chk s l n = 2 by unfold chk; rw [if_neg h1, if_neg h2, if_neg h3, if_neg h4, if_pos h5])
            go_upto_region 3 with fail
            go_quiet (fail)
            go_wp2
            go_ret
            exact ⟨by rw [HR.out]; rfl, below_drewN BA.out _⟩
          · have d5 : decide (l < 0) = false := by simpa using h5
            have CV := Lib.hid (fun W => rcount_v l s W (by omega) (by omega) (by omega) (by omega))
            obtain ⟨q, hq⟩ : ∃ q, (l + s - 1) / s = q := ⟨_, rfl⟩
            rw [hq] at CV
            by_cases h6 : q = (n : Int)
            · have d6 : (q != (n : Int)) = false := by simpa using h6
              have HR := Lib.hid (show chk s l n = 0 by unfold chk; rw [if_neg h1, if_neg h2, if_neg h3, if_neg h4, if_neg h5, hq, if_pos h6])
              clear h6 hq
              go_upto_region 3 with fail
              go_quiet ((go_at_call 79; exact quiet_left (CV.out _)))
              go_wp2
              go_ret
              exact ⟨by rw [HR.out]; rfl, below_drewN BA.out _⟩
            · have d6 : (q != (n : Int)) = true := by simpa using h6
              have HR := Lib.hid (show chk s l n = 2 by unfold chk; rw [if_neg h1, if_neg h2, if_neg h3, if_neg h4, if_neg h5, hq, if_neg h6])
              clear h6 hq
              go_upto_region 3 with fail
              go_quiet ((go_at_call 79; exact quiet_left (CV.out _)))
              go_wp2
              go_ret
              exact ⟨by rw [HR.out]; rfl, below_drewN BA.out _⟩
/-- Where block k goes. -/
def toP (s l k : Int) : Int := min l ((k + 1) * s)
end Go.Proofs.YtndekohimfjdeaaGreatDoor

namespace Go.Proofs.YtndekohimfjdeaaGreatDoor
open Go.RowKit Go.Shelf
theorem run_equal_arr2 {P : Program} {w : World} {t e : TypeId} {n d : Nat} {k : IntKind} {xs ys : List Int} (h : P.underlying t = some (.array n e)) (he : P.underlying e = some (.int k)) (hi : (P.info? e).map (·.size) = some 1)
    (ha : xs.length = n) (hb : ys.length = n) : (Op.equalIn (d + 2) t (.agg (xs.map (Value.int k)).toArray) (.agg (ys.map (Value.int k)).toArray)).run P w = .ok (xs == ys) w := by
  have hsz : (sizeOf e).run P w = .ok 1 w := by
    cases hq : P.info? e with
    | none => simp [hq] at hi
    | some i =>
      have hs : i.size = 1 := by simpa [hq] using hi
      simp [sizeOf, typeInfo, hq, hs]
  have key : ∀ l : List Nat, (∀ i ∈ l, i < n) → (forIn (m := Sem) l ((none : Option Bool), ()) fun i _ => do
      let x ← part e (xs.map (Value.int k)).toArray (i * 1)
      let y ← part e (ys.map (Value.int k)).toArray (i * 1)
      let b ← Op.equalIn (d + 1) e x y
      if (!b) = true then pure (ForInStep.done (some false, ())) else pure (ForInStep.yield (none, ()))).run P w = .ok (if l.all (fun i => xs[i]? == ys[i]?) then none else some false, ()) w := by
    intro l
    induction l with
    | nil => intro _; simp
    | cons i l ih =>
      intro hl
      have hin := hl i List.mem_cons_self
      have ga : xs[i]? = some (xs[i]'(by omega)) := List.getElem?_eq_getElem (by omega)
      have gb : ys[i]? = some (ys[i]'(by omega)) := List.getElem?_eq_getElem (by omega)
      generalize xs[i]'(by omega) = x at ga
      generalize ys[i]'(by omega) = y at gb
      have hpa : (part e (xs.map (Value.int k)).toArray (i * 1)).run P w = .ok (.int k x) w := by simp [part, isAgg, run_underlying he, ga, Result.andThen]
      have hpb : (part e (ys.map (Value.int k)).toArray (i * 1)).run P w = .ok (.int k y) w := by simp [part, isAgg, run_underlying he, gb, Result.andThen]
      simp only [List.forIn_cons, Sem.run_bind, hpa, hpb, Result.andThen_ok, run_equalIn_int w d e k k x y he, List.all_cons, ga, gb]
      by_cases hxy : x = y
      · subst hxy
        simp only [beq_self_eq_true, Bool.not_true, Bool.false_eq_true, if_false, Sem.run_pure, Result.andThen_ok, Bool.true_and]
        exact ih fun j hj => hl j (List.mem_cons_of_mem _ hj)
      · have h1 : (x == y) = false := by simpa using hxy
        have h2 : (some x == some y) = false := by simpa using hxy
        simp [h1, h2]
  have hall : ((List.range' 0 n).all fun i => xs[i]? == ys[i]?) = (xs == ys) := by
    rw [Bool.eq_iff_iff]
    simp only [List.all_eq_true, List.mem_range'_1, Nat.zero_le, Nat.zero_add, true_and, beq_iff_eq]
    constructor
    · intro hh
      apply List.ext_getElem? 
      intro i
      by_cases hin : i < n
      · exact hh i hin
      · rw [List.getElem?_eq_none (by omega), List.getElem?_eq_none (by omega)]
    · intro hh i _
      rw [hh]
  rw [Op.equalIn]
  simp only [Sem.run_bind, run_underlying h, Result.andThen_ok, hsz]
  simp only [Std.Legacy.Range.forIn_eq_forIn_range']
  rw [key _ (fun i hi => by simp [Std.Legacy.Range.size] at hi; omega)]
  rw [show (List.range' ([:n] : Std.Legacy.Range).start ([:n] : Std.Legacy.Range).size ([:n] : Std.Legacy.Range).step) = List.range' 0 n by simp [Std.Legacy.Range.size], hall]
  cases xs == ys <;> simp
theorem Dg.cells_int (d : Dg) : d.cells = (d.1.map Int.ofNat).map (Value.int .u8) := by simp [Dg.cells]
theorem map_ofNat_beq (a b : List Nat) : (a.map Int.ofNat == b.map Int.ofNat) = (a == b) := by
  rw [Bool.eq_iff_iff, beq_iff_eq, beq_iff_eq]
  constructor
  · intro h
    have := congrArg (List.map Int.toNat) h
    simpa [List.map_map, Function.comp_def] using this
  · intro h; rw [h]
theorem eqd (d e : Dg) (w : World) : (binOp .eql 70 (.agg d.cells.toArray) (.agg e.cells.toArray)).run Tryz.prog w = .ok (.bool (d.1 == e.1)) w := by
  rw [Dg.cells_int, Dg.cells_int, run_eql_struct, run_equal_arr2 Tryz.underlying70 Tryz.underlying5 (by kernel_rfl) (by simp [d.2]) (by simp [e.2]), map_ofNat_beq]
  rfl
theorem neqd (d e : Dg) (w : World) : (binOp .neq 70 (.agg d.cells.toArray) (.agg e.cells.toArray)).run Tryz.prog w = .ok (.bool (!(d.1 == e.1))) w := by
  rw [Dg.cells_int, Dg.cells_int, run_neq_struct, run_equal_arr2 Tryz.underlying70 Tryz.underlying5 (by kernel_rfl) (by simp [d.2]) (by simp [e.2]), map_ofNat_beq]
  rfl
/-- A row of digests that can be read. -/
def DReads (w : World) (B : Nat) (A : Option Addr) (n : Nat) (ds : List Dg) : Prop := Reads w B 32 A n (ds.flatMap Dg.cells)
section
variable {w w' : World} {B n : Nat} {A : Option Addr} {ds : List Dg}
theorem DReads.len (h : DReads w B A n ds) : ds.length = n := by
  have h1 := h.1
  rw [flat_len Dg.cells_len] at h1
  omega
theorem DReads.below (h : DReads w B A n ds) (hb : Below B w w') : DReads w' B A n ds := Reads.below h hb
theorem DReads.at_ {k : Nat} (h : DReads w B A n ds) (hk : k < n) :
    ∃ ad d, A = some ad ∧ ds[k]? = some d ∧ ∀ W, Below B w W → ∀ j u, d.cells[j]? = some u → W.cell? ((ad.add (k * 32)).add j) = some u := by
  have hl : k < ds.length := by rw [h.len]; exact hk
  obtain ⟨ad, e, hb, hc⟩ := h.2 (by omega)
  refine ⟨ad, ds[k], e, List.getElem?_eq_getElem hl, fun W hW j u hu => ?_⟩
  have hj : j < 32 := by
    have := (List.getElem?_eq_some_iff.1 hu).1
    rwa [Dg.cells_len] at this
  rw [add_of_add]
  refine (hW.cell (p := ad.add (k * 32 + j)) (by rw [block_of_add]; exact hb)).trans (hc _ u ?_)
  rw [flat_at Dg.cells_len ds (List.getElem?_eq_getElem hl) hj]
  exact hu
end
/-- The answer of At. -/
def atP (s l : Int) (n : Nat) (k : Int) : Int × Int × Bool := if chk s l n = 0 ∧ 0 ≤ k ∧ k < (n : Int) then (k * s, toP s l k, true) else (0, 0, false)
theorem below_off (l : List Dg) : True := trivial

end Go.Proofs.YtndekohimfjdeaaGreatDoor

namespace Go.Proofs.YtndekohimfjdeaaGreatDoor
open Go.RowKit Go.Shelf
theorem take_eq_step {α : Type} {l m : List α} {k : Nat} {x y : α} (h : l.take k = m.take k) (hx : l[k]? = some x) (hy : m[k]? = some y) (e : x = y) : l.take (k + 1) = m.take (k + 1) := by
  rw [List.take_add_one, List.take_add_one, h, hx, hy, e]
theorem ne_at {α : Type} {l m : List α} {k : Nat} {x y : α} (hx : l[k]? = some x) (hy : m[k]? = some y) (e : x ≠ y) : l ≠ m := by
  intro h
  subst h
  rw [hx] at hy
  injection hy with hy
  exact e hy

set_option maxRecDepth 100000 in
set_option maxHeartbeats 4000000 in
theorem eqs_v (A A' : Option Addr) (n c n' c' B : Nat) (ds ds' : List Dg) (w : World) (hd : DReads w B A n ds) (he : DReads w B A' n' ds') (hB : B ≤ w.heap.size) (hn : n ≤ 9007199254740992) :
    Calls Tryz.prog 53 #[.slice A n c, .slice A' n' c'] w fun e w' => e = .returned (.bool (decide (ds = ds'))) ∧ Below w.heap.size w w' := by
  have HD := Lib.hid hd
  have HE := Lib.hid he
  have hl := hd.len
  have hl' := he.len
  clear hd he
  go_enter Tryz.func53, Tryz.ntmps53
  by_cases hnn : n = n'
  case neg =>
    have d1 : ((n : Int) != (n' : Int)) = true := by rw [bne_iff_ne]; omega
    have HR := Lib.hid (show decide (ds = ds') = false by
      rw [decide_eq_false_iff_not]
      intro e
      subst e
      omega)
    clear hl hl'
    go_wp2
    go_ret
    exact ⟨by rw [HR.out]; rfl, Below.refl _ _⟩
  subst hnn
  clear hl hl'
  go_wp2
  go_loopw [13] (fun i wr => ∃ k : Nat, k ≤ n ∧ i = .int .i64 (k : Int) ∧ ds.take k = ds'.take k ∧ Below w.heap.size w wr) (fun i _ => n - (intOf i).toNat)
  case atStart => exact ⟨0, Nat.zero_le _, rfl, by simp, Below.refl _ _⟩
  case round =>
    obtain ⟨k, hk, rfl, ht, hb⟩ := hrel
    have HT := Lib.hid ht
    have HB := Lib.hid hb
    clear ht hb
    by_cases hlt : k < n
    · obtain ⟨ad, d, rfl, hd, hc⟩ := HD.out.at_ hlt
      obtain ⟨ad', d', rfl, hd', hc'⟩ := HE.out.at_ hlt
      have HC := Lib.hid (hc wr (HB.out.mono hB))
      have HC' := Lib.hid (hc' wr (HB.out.mono hB))
      have k0 : (0 : Int) ≤ (k : Int) := by omega
      have HX := Lib.hid hd
      have HX' := Lib.hid hd'
      have HI9 := Lib.hid (show (Tryz.prog.info? 70).map (·.size) = some 32 by kernel_rfl)
      have hne : ∀ V : World, (binOp .neq 70 (.agg d.cells.toArray) (.agg d'.cells.toArray)).run Tryz.prog V = .ok (.bool (!(d.1 == d'.1))) V := fun V => neqd d d' V
      clear hd hd' hc hc'
      by_cases hdd : d.1 = d'.1
      · have HN := Lib.hid (take_eq_step HT.out HX.out HX'.out (Subtype.ext hdd))
        have e1 : (!(d.1 == d'.1)) = false := by simpa using hdd
        rw [e1] at hne
        clear e1 hdd
        go_upto_region 6 with fail
        refine wp_region_tree (SK.one 0 false <| .one 1 false <| .one 2 false <| .one 3 false <| .one 4 false <| .one 5 false <| .one 6 false <| .one 7 false <| .one 8 false .done) (fun V => (∀ j u, d.cells[j]? = some u → V.cell? ((ad.add (k * 32)).add j) = some u) ∧ (∀ j u, d'.cells[j]? = some u → V.cell? ((ad'.add (k * 32)).add j) = some u)) (by kernel_rfl) (by kernel_rfl) (by kernel_rfl) (by kernel_rfl) ?_
        have hS : (∀ j u, d.cells[j]? = some u → wr.drew.cell? ((ad.add (k * 32)).add j) = some u) ∧ (∀ j u, d'.cells[j]? = some u → wr.drew.cell? ((ad'.add (k * 32)).add j) = some u) := ⟨HC.out, HC'.out⟩
        ((first | (refine TR.val2 (v := ?_) _ (by simp only [List.getElem?_toArray, List.getElem?_cons_zero]; rfl) ?_ ?_ ?_ ?_ ?_; rotate_left; (focus rfl); (focus (intro W hSW; (try dsimp only at hSW); (try (obtain ⟨hS1, hSW⟩ := hSW)); (try (obtain ⟨hS2, hSW⟩ := hSW)); (try (obtain ⟨hS3, hSW⟩ := hSW)); (try (obtain ⟨hS4, hSW⟩ := hSW)); (try (obtain ⟨hS5, hSW⟩ := hSW)); (try (obtain ⟨hS6, hSW⟩ := hSW)); (try (obtain ⟨hS7, hSW⟩ := hSW)); (try (obtain ⟨hS8, hSW⟩ := hSW)); go_simp; (try with_reducible rfl); done)); (focus exact fun _ _ _ h => h); (focus assumption)) | (refine TR.skip _ (by simp only [List.getElem?_toArray, List.getElem?_cons_zero]; rfl) ?_ ?_ ?_ ?_; (focus rfl); (focus exact fun _ _ _ h => h); (focus assumption))); simp only [Act.put, List.setIfInBounds_toArray, List.set_cons_zero, List.set_cons_succ])
        iterate 2 ((first | (refine TR.val2 (v := ?_) _ (by simp only [List.getElem?_toArray, List.getElem?_cons_succ, List.getElem?_cons_zero]; rfl) ?_ ?_ ?_ ?_ ?_; rotate_left; (focus rfl); (focus (intro W hSW; (try dsimp only at hSW); (try (obtain ⟨hS1, hSW⟩ := hSW)); (try (obtain ⟨hS2, hSW⟩ := hSW)); (try (obtain ⟨hS3, hSW⟩ := hSW)); (try (obtain ⟨hS4, hSW⟩ := hSW)); (try (obtain ⟨hS5, hSW⟩ := hSW)); (try (obtain ⟨hS6, hSW⟩ := hSW)); (try (obtain ⟨hS7, hSW⟩ := hSW)); (try (obtain ⟨hS8, hSW⟩ := hSW)); go_simp; (try with_reducible rfl); done)); (focus exact fun _ _ _ h => h); (focus assumption)) | (refine TR.skip _ (by simp only [List.getElem?_toArray, List.getElem?_cons_succ, List.getElem?_cons_zero]; rfl) ?_ ?_ ?_ ?_; (focus rfl); (focus exact fun _ _ _ h => h); (focus assumption))); simp only [Act.put, List.setIfInBounds_toArray, List.set_cons_zero, List.set_cons_succ])
        refine TR.val2 (v := .agg d.cells.toArray) _ (by simp only [List.getElem?_toArray, List.getElem?_cons_succ, List.getElem?_cons_zero]; rfl) ?_ ?_ ?_ ?_ ?_
        (focus rfl)
        (focus exact fun V hV => exec_load_slot 70 (.tmp 18) rfl (ad.add (k * 32)) rfl d.cells _ hV.1 Tryz.underlying70 rfl (HI9.out.trans (by rw [Dg.cells_len])))
        (focus exact fun _ _ _ h => h)
        (focus exact hS)
        simp only [Act.put, List.setIfInBounds_toArray, List.set_cons_zero, List.set_cons_succ]
        iterate 3 ((first | (refine TR.val2 (v := ?_) _ (by simp only [List.getElem?_toArray, List.getElem?_cons_succ, List.getElem?_cons_zero]; rfl) ?_ ?_ ?_ ?_ ?_; rotate_left; (focus rfl); (focus (intro W hSW; (try dsimp only at hSW); (try (obtain ⟨hS1, hSW⟩ := hSW)); (try (obtain ⟨hS2, hSW⟩ := hSW)); (try (obtain ⟨hS3, hSW⟩ := hSW)); (try (obtain ⟨hS4, hSW⟩ := hSW)); (try (obtain ⟨hS5, hSW⟩ := hSW)); (try (obtain ⟨hS6, hSW⟩ := hSW)); (try (obtain ⟨hS7, hSW⟩ := hSW)); (try (obtain ⟨hS8, hSW⟩ := hSW)); go_simp; (try with_reducible rfl); done)); (focus exact fun _ _ _ h => h); (focus assumption)) | (refine TR.skip _ (by simp only [List.getElem?_toArray, List.getElem?_cons_succ, List.getElem?_cons_zero]; rfl) ?_ ?_ ?_ ?_; (focus rfl); (focus exact fun _ _ _ h => h); (focus assumption))); simp only [Act.put, List.setIfInBounds_toArray, List.set_cons_zero, List.set_cons_succ])
        refine TR.val2 (v := .agg d'.cells.toArray) _ (by simp only [List.getElem?_toArray, List.getElem?_cons_succ, List.getElem?_cons_zero]; rfl) ?_ ?_ ?_ ?_ ?_
        (focus rfl)
        (focus exact fun V hV => exec_load_slot 70 (.tmp 22) rfl (ad'.add (k * 32)) rfl d'.cells _ hV.2 Tryz.underlying70 rfl (HI9.out.trans (by rw [Dg.cells_len])))
        (focus exact fun _ _ _ h => h)
        (focus exact hS)
        simp only [Act.put, List.setIfInBounds_toArray, List.set_cons_zero, List.set_cons_succ]
        iterate 1 ((first | (refine TR.val2 (v := ?_) _ (by simp only [List.getElem?_toArray, List.getElem?_cons_succ, List.getElem?_cons_zero]; rfl) ?_ ?_ ?_ ?_ ?_; rotate_left; (focus rfl); (focus (intro W hSW; (try dsimp only at hSW); (try (obtain ⟨hS1, hSW⟩ := hSW)); (try (obtain ⟨hS2, hSW⟩ := hSW)); (try (obtain ⟨hS3, hSW⟩ := hSW)); (try (obtain ⟨hS4, hSW⟩ := hSW)); (try (obtain ⟨hS5, hSW⟩ := hSW)); (try (obtain ⟨hS6, hSW⟩ := hSW)); (try (obtain ⟨hS7, hSW⟩ := hSW)); (try (obtain ⟨hS8, hSW⟩ := hSW)); go_simp; (try with_reducible rfl); done)); (focus exact fun _ _ _ h => h); (focus assumption)) | (refine TR.skip _ (by simp only [List.getElem?_toArray, List.getElem?_cons_succ, List.getElem?_cons_zero]; rfl) ?_ ?_ ?_ ?_; (focus rfl); (focus exact fun _ _ _ h => h); (focus assumption))); simp only [Act.put, List.setIfInBounds_toArray, List.set_cons_zero, List.set_cons_succ])
        refine TR.done ?_
        clear hS
        go_wp2
        go_roundw
        case rel => exact ⟨k + 1, hlt, by go_num, HN.out, HB.out.drew⟩
        case measure => simp [intOf]; omega
      · have HN := Lib.hid (ne_at HX.out HX'.out (fun e => hdd (by rw [e])))
        have e1 : (!(d.1 == d'.1)) = true := by simpa using hdd
        rw [e1] at hne
        clear e1 hdd
        go_upto_region 6 with fail
        refine wp_region_tree (SK.one 0 false <| .one 1 false <| .one 2 false <| .one 3 false <| .one 4 false <| .one 5 false <| .one 6 false <| .one 7 false <| .one 8 false .done) (fun V => (∀ j u, d.cells[j]? = some u → V.cell? ((ad.add (k * 32)).add j) = some u) ∧ (∀ j u, d'.cells[j]? = some u → V.cell? ((ad'.add (k * 32)).add j) = some u)) (by kernel_rfl) (by kernel_rfl) (by kernel_rfl) (by kernel_rfl) ?_
        have hS : (∀ j u, d.cells[j]? = some u → wr.drew.cell? ((ad.add (k * 32)).add j) = some u) ∧ (∀ j u, d'.cells[j]? = some u → wr.drew.cell? ((ad'.add (k * 32)).add j) = some u) := ⟨HC.out, HC'.out⟩
        ((first | (refine TR.val2 (v := ?_) _ (by simp only [List.getElem?_toArray, List.getElem?_cons_zero]; rfl) ?_ ?_ ?_ ?_ ?_; rotate_left; (focus rfl); (focus (intro W hSW; (try dsimp only at hSW); (try (obtain ⟨hS1, hSW⟩ := hSW)); (try (obtain ⟨hS2, hSW⟩ := hSW)); (try (obtain ⟨hS3, hSW⟩ := hSW)); (try (obtain ⟨hS4, hSW⟩ := hSW)); (try (obtain ⟨hS5, hSW⟩ := hSW)); (try (obtain ⟨hS6, hSW⟩ := hSW)); (try (obtain ⟨hS7, hSW⟩ := hSW)); (try (obtain ⟨hS8, hSW⟩ := hSW)); go_simp; (try with_reducible rfl); done)); (focus exact fun _ _ _ h => h); (focus assumption)) | (refine TR.skip _ (by simp only [List.getElem?_toArray, List.getElem?_cons_zero]; rfl) ?_ ?_ ?_ ?_; (focus rfl); (focus exact fun _ _ _ h => h); (focus assumption))); simp only [Act.put, List.setIfInBounds_toArray, List.set_cons_zero, List.set_cons_succ])
        iterate 2 ((first | (refine TR.val2 (v := ?_) _ (by simp only [List.getElem?_toArray, List.getElem?_cons_succ, List.getElem?_cons_zero]; rfl) ?_ ?_ ?_ ?_ ?_; rotate_left; (focus rfl); (focus (intro W hSW; (try dsimp only at hSW); (try (obtain ⟨hS1, hSW⟩ := hSW)); (try (obtain ⟨hS2, hSW⟩ := hSW)); (try (obtain ⟨hS3, hSW⟩ := hSW)); (try (obtain ⟨hS4, hSW⟩ := hSW)); (try (obtain ⟨hS5, hSW⟩ := hSW)); (try (obtain ⟨hS6, hSW⟩ := hSW)); (try (obtain ⟨hS7, hSW⟩ := hSW)); (try (obtain ⟨hS8, hSW⟩ := hSW)); go_simp; (try with_reducible rfl); done)); (focus exact fun _ _ _ h => h); (focus assumption)) | (refine TR.skip _ (by simp only [List.getElem?_toArray, List.getElem?_cons_succ, List.getElem?_cons_zero]; rfl) ?_ ?_ ?_ ?_; (focus rfl); (focus exact fun _ _ _ h => h); (focus assumption))); simp only [Act.put, List.setIfInBounds_toArray, List.set_cons_zero, List.set_cons_succ])
        refine TR.val2 (v := .agg d.cells.toArray) _ (by simp only [List.getElem?_toArray, List.getElem?_cons_succ, List.getElem?_cons_zero]; rfl) ?_ ?_ ?_ ?_ ?_
        (focus rfl)
        (focus exact fun V hV => exec_load_slot 70 (.tmp 18) rfl (ad.add (k * 32)) rfl d.cells _ hV.1 Tryz.underlying70 rfl (HI9.out.trans (by rw [Dg.cells_len])))
        (focus exact fun _ _ _ h => h)
        (focus exact hS)
        simp only [Act.put, List.setIfInBounds_toArray, List.set_cons_zero, List.set_cons_succ]
        iterate 3 ((first | (refine TR.val2 (v := ?_) _ (by simp only [List.getElem?_toArray, List.getElem?_cons_succ, List.getElem?_cons_zero]; rfl) ?_ ?_ ?_ ?_ ?_; rotate_left; (focus rfl); (focus (intro W hSW; (try dsimp only at hSW); (try (obtain ⟨hS1, hSW⟩ := hSW)); (try (obtain ⟨hS2, hSW⟩ := hSW)); (try (obtain ⟨hS3, hSW⟩ := hSW)); (try (obtain ⟨hS4, hSW⟩ := hSW)); (try (obtain ⟨hS5, hSW⟩ := hSW)); (try (obtain ⟨hS6, hSW⟩ := hSW)); (try (obtain ⟨hS7, hSW⟩ := hSW)); (try (obtain ⟨hS8, hSW⟩ := hSW)); go_simp; (try with_reducible rfl); done)); (focus exact fun _ _ _ h => h); (focus assumption)) | (refine TR.skip _ (by simp only [List.getElem?_toArray, List.getElem?_cons_succ, List.getElem?_cons_zero]; rfl) ?_ ?_ ?_ ?_; (focus rfl); (focus exact fun _ _ _ h => h); (focus assumption))); simp only [Act.put, List.setIfInBounds_toArray, List.set_cons_zero, List.set_cons_succ])
        refine TR.val2 (v := .agg d'.cells.toArray) _ (by simp only [List.getElem?_toArray, List.getElem?_cons_succ, List.getElem?_cons_zero]; rfl) ?_ ?_ ?_ ?_ ?_
        (focus rfl)
        (focus exact fun V hV => exec_load_slot 70 (.tmp 22) rfl (ad'.add (k * 32)) rfl d'.cells _ hV.2 Tryz.underlying70 rfl (HI9.out.trans (by rw [Dg.cells_len])))
        (focus exact fun _ _ _ h => h)
        (focus exact hS)
        simp only [Act.put, List.setIfInBounds_toArray, List.set_cons_zero, List.set_cons_succ]
        iterate 1 ((first | (refine TR.val2 (v := ?_) _ (by simp only [List.getElem?_toArray, List.getElem?_cons_succ, List.getElem?_cons_zero]; rfl) ?_ ?_ ?_ ?_ ?_; rotate_left; (focus rfl); (focus (intro W hSW; (try dsimp only at hSW); (try (obtain ⟨hS1, hSW⟩ := hSW)); (try (obtain ⟨hS2, hSW⟩ := hSW)); (try (obtain ⟨hS3, hSW⟩ := hSW)); (try (obtain ⟨hS4, hSW⟩ := hSW)); (try (obtain ⟨hS5, hSW⟩ := hSW)); (try (obtain ⟨hS6, hSW⟩ := hSW)); (try (obtain ⟨hS7, hSW⟩ := hSW)); (try (obtain ⟨hS8, hSW⟩ := hSW)); go_simp; (try with_reducible rfl); done)); (focus exact fun _ _ _ h => h); (focus assumption)) | (refine TR.skip _ (by simp only [List.getElem?_toArray, List.getElem?_cons_succ, List.getElem?_cons_zero]; rfl) ?_ ?_ ?_ ?_; (focus rfl); (focus exact fun _ _ _ h => h); (focus assumption))); simp only [Act.put, List.setIfInBounds_toArray, List.set_cons_zero, List.set_cons_succ])
        refine TR.done ?_
        clear hS
        go_wp2
        go_ret
        exact ⟨by rw [decide_eq_false HN.out]; rfl, HB.out.drew⟩
    · obtain rfl : k = n := by omega
      have HN := Lib.hid (show ds = ds' by
        have h1 := HT.out
        rwa [List.take_of_length_le (by rw [HD.out.len]; exact Nat.le_refl _), List.take_of_length_le (by rw [HE.out.len]; exact Nat.le_refl _)] at h1)
      go_wp2
      go_ret
      exact ⟨by rw [decide_eq_true HN.out]; rfl, HB.out⟩

set_option maxRecDepth 100000 in
set_option maxHeartbeats 4000000 in
theorem digests_v (A A' : Option Addr) (n c n' c' B : Nat) (ds ds' : List Dg) (w : World) (hd : DReads w B A n ds) (he : DReads w B A' n' ds') (hB : B ≤ w.heap.size) (hn : n ≤ 9007199254740992) :
    Calls Tryz.prog 72 #[.slice A n c, .slice A' n' c'] w fun e w' => e = .returned (.bool (decide (ds = ds'))) ∧ Below w.heap.size w w' := by
  have HD := Lib.hid hd
  have HE := Lib.hid he
  have hl := hd.len
  have hl' := he.len
  clear hd he
  go_enter Tryz.func72, Tryz.ntmps72
  by_cases hnn : n = n'
  case neg =>
    have d1 : ((n : Int) != (n' : Int)) = true := by rw [bne_iff_ne]; omega
    have HR := Lib.hid (show decide (ds = ds') = false by
      rw [decide_eq_false_iff_not]
      intro e
      subst e
      omega)
    clear hl hl'
    go_wp2
    go_ret
    exact ⟨by rw [HR.out]; rfl, Below.refl _ _⟩
  subst hnn
  clear hl hl'
  go_wp2
  go_loopw [5] (fun i wr => ∃ k : Nat, k ≤ n ∧ i = .int .i64 (k : Int) ∧ ds.take k = ds'.take k ∧ Below w.heap.size w wr) (fun i _ => n - (intOf i).toNat)
  case atStart => exact ⟨0, Nat.zero_le _, rfl, by simp, Below.refl _ _⟩
  case round =>
    obtain ⟨k, hk, rfl, ht, hb⟩ := hrel
    have HT := Lib.hid ht
    have HB := Lib.hid hb
    clear ht hb
    by_cases hlt : k < n
    · obtain ⟨ad, d, rfl, hd, hc⟩ := HD.out.at_ hlt
      obtain ⟨ad', d', rfl, hd', hc'⟩ := HE.out.at_ hlt
      have HC := Lib.hid (hc wr (HB.out.mono hB))
      have HC' := Lib.hid (hc' wr (HB.out.mono hB))
      have k0 : (0 : Int) ≤ (k : Int) := by omega
      have HX := Lib.hid hd
      have HX' := Lib.hid hd'
      have HI9 := Lib.hid (show (Tryz.prog.info? 70).map (·.size) = some 32 by kernel_rfl)
      have hne : ∀ V : World, (binOp .neq 70 (.agg d.cells.toArray) (.agg d'.cells.toArray)).run Tryz.prog V = .ok (.bool (!(d.1 == d'.1))) V := fun V => neqd d d' V
      clear hd hd' hc hc'
      by_cases hdd : d.1 = d'.1
      · have HN := Lib.hid (take_eq_step HT.out HX.out HX'.out (Subtype.ext hdd))
        have e1 : (!(d.1 == d'.1)) = false := by simpa using hdd
        rw [e1] at hne
        clear e1 hdd
        go_upto_region 6 with fail
        refine wp_region_tree (SK.one 0 false <| .one 1 false <| .one 2 false <| .one 3 false <| .one 4 false <| .one 5 false <| .one 6 false <| .one 7 false <| .one 8 false .done) (fun V => (∀ j u, d.cells[j]? = some u → V.cell? ((ad.add (k * 32)).add j) = some u) ∧ (∀ j u, d'.cells[j]? = some u → V.cell? ((ad'.add (k * 32)).add j) = some u)) (by kernel_rfl) (by kernel_rfl) (by kernel_rfl) (by kernel_rfl) ?_
        have hS : (∀ j u, d.cells[j]? = some u → wr.drew.cell? ((ad.add (k * 32)).add j) = some u) ∧ (∀ j u, d'.cells[j]? = some u → wr.drew.cell? ((ad'.add (k * 32)).add j) = some u) := ⟨HC.out, HC'.out⟩
        ((first | (refine TR.val2 (v := ?_) _ (by simp only [List.getElem?_toArray, List.getElem?_cons_zero]; rfl) ?_ ?_ ?_ ?_ ?_; rotate_left; (focus rfl); (focus (intro W hSW; (try dsimp only at hSW); (try (obtain ⟨hS1, hSW⟩ := hSW)); (try (obtain ⟨hS2, hSW⟩ := hSW)); (try (obtain ⟨hS3, hSW⟩ := hSW)); (try (obtain ⟨hS4, hSW⟩ := hSW)); (try (obtain ⟨hS5, hSW⟩ := hSW)); (try (obtain ⟨hS6, hSW⟩ := hSW)); (try (obtain ⟨hS7, hSW⟩ := hSW)); (try (obtain ⟨hS8, hSW⟩ := hSW)); go_simp; (try with_reducible rfl); done)); (focus exact fun _ _ _ h => h); (focus assumption)) | (refine TR.skip _ (by simp only [List.getElem?_toArray, List.getElem?_cons_zero]; rfl) ?_ ?_ ?_ ?_; (focus rfl); (focus exact fun _ _ _ h => h); (focus assumption))); simp only [Act.put, List.setIfInBounds_toArray, List.set_cons_zero, List.set_cons_succ])
        iterate 2 ((first | (refine TR.val2 (v := ?_) _ (by simp only [List.getElem?_toArray, List.getElem?_cons_succ, List.getElem?_cons_zero]; rfl) ?_ ?_ ?_ ?_ ?_; rotate_left; (focus rfl); (focus (intro W hSW; (try dsimp only at hSW); (try (obtain ⟨hS1, hSW⟩ := hSW)); (try (obtain ⟨hS2, hSW⟩ := hSW)); (try (obtain ⟨hS3, hSW⟩ := hSW)); (try (obtain ⟨hS4, hSW⟩ := hSW)); (try (obtain ⟨hS5, hSW⟩ := hSW)); (try (obtain ⟨hS6, hSW⟩ := hSW)); (try (obtain ⟨hS7, hSW⟩ := hSW)); (try (obtain ⟨hS8, hSW⟩ := hSW)); go_simp; (try with_reducible rfl); done)); (focus exact fun _ _ _ h => h); (focus assumption)) | (refine TR.skip _ (by simp only [List.getElem?_toArray, List.getElem?_cons_succ, List.getElem?_cons_zero]; rfl) ?_ ?_ ?_ ?_; (focus rfl); (focus exact fun _ _ _ h => h); (focus assumption))); simp only [Act.put, List.setIfInBounds_toArray, List.set_cons_zero, List.set_cons_succ])
        refine TR.val2 (v := .agg d.cells.toArray) _ (by simp only [List.getElem?_toArray, List.getElem?_cons_succ, List.getElem?_cons_zero]; rfl) ?_ ?_ ?_ ?_ ?_
        (focus rfl)
        (focus exact fun V hV => exec_load_slot 70 (.tmp 19) rfl (ad.add (k * 32)) rfl d.cells _ hV.1 Tryz.underlying70 rfl (HI9.out.trans (by rw [Dg.cells_len])))
        (focus exact fun _ _ _ h => h)
        (focus exact hS)
        simp only [Act.put, List.setIfInBounds_toArray, List.set_cons_zero, List.set_cons_succ]
        iterate 3 ((first | (refine TR.val2 (v := ?_) _ (by simp only [List.getElem?_toArray, List.getElem?_cons_succ, List.getElem?_cons_zero]; rfl) ?_ ?_ ?_ ?_ ?_; rotate_left; (focus rfl); (focus (intro W hSW; (try dsimp only at hSW); (try (obtain ⟨hS1, hSW⟩ := hSW)); (try (obtain ⟨hS2, hSW⟩ := hSW)); (try (obtain ⟨hS3, hSW⟩ := hSW)); (try (obtain ⟨hS4, hSW⟩ := hSW)); (try (obtain ⟨hS5, hSW⟩ := hSW)); (try (obtain ⟨hS6, hSW⟩ := hSW)); (try (obtain ⟨hS7, hSW⟩ := hSW)); (try (obtain ⟨hS8, hSW⟩ := hSW)); go_simp; (try with_reducible rfl); done)); (focus exact fun _ _ _ h => h); (focus assumption)) | (refine TR.skip _ (by simp only [List.getElem?_toArray, List.getElem?_cons_succ, List.getElem?_cons_zero]; rfl) ?_ ?_ ?_ ?_; (focus rfl); (focus exact fun _ _ _ h => h); (focus assumption))); simp only [Act.put, List.setIfInBounds_toArray, List.set_cons_zero, List.set_cons_succ])
        refine TR.val2 (v := .agg d'.cells.toArray) _ (by simp only [List.getElem?_toArray, List.getElem?_cons_succ, List.getElem?_cons_zero]; rfl) ?_ ?_ ?_ ?_ ?_
        (focus rfl)
        (focus exact fun V hV => exec_load_slot 70 (.tmp 23) rfl (ad'.add (k * 32)) rfl d'.cells _ hV.2 Tryz.underlying70 rfl (HI9.out.trans (by rw [Dg.cells_len])))
        (focus exact fun _ _ _ h => h)
        (focus exact hS)
        simp only [Act.put, List.setIfInBounds_toArray, List.set_cons_zero, List.set_cons_succ]
        iterate 1 ((first | (refine TR.val2 (v := ?_) _ (by simp only [List.getElem?_toArray, List.getElem?_cons_succ, List.getElem?_cons_zero]; rfl) ?_ ?_ ?_ ?_ ?_; rotate_left; (focus rfl); (focus (intro W hSW; (try dsimp only at hSW); (try (obtain ⟨hS1, hSW⟩ := hSW)); (try (obtain ⟨hS2, hSW⟩ := hSW)); (try (obtain ⟨hS3, hSW⟩ := hSW)); (try (obtain ⟨hS4, hSW⟩ := hSW)); (try (obtain ⟨hS5, hSW⟩ := hSW)); (try (obtain ⟨hS6, hSW⟩ := hSW)); (try (obtain ⟨hS7, hSW⟩ := hSW)); (try (obtain ⟨hS8, hSW⟩ := hSW)); go_simp; (try with_reducible rfl); done)); (focus exact fun _ _ _ h => h); (focus assumption)) | (refine TR.skip _ (by simp only [List.getElem?_toArray, List.getElem?_cons_succ, List.getElem?_cons_zero]; rfl) ?_ ?_ ?_ ?_; (focus rfl); (focus exact fun _ _ _ h => h); (focus assumption))); simp only [Act.put, List.setIfInBounds_toArray, List.set_cons_zero, List.set_cons_succ])
        refine TR.done ?_
        clear hS
        go_wp2
        go_roundw
        case rel => exact ⟨k + 1, hlt, by go_num, HN.out, HB.out.drew⟩
        case measure => simp [intOf]; omega
      · have HN := Lib.hid (ne_at HX.out HX'.out (fun e => hdd (by rw [e])))
        have e1 : (!(d.1 == d'.1)) = true := by simpa using hdd
        rw [e1] at hne
        clear e1 hdd
        go_upto_region 6 with fail
        refine wp_region_tree (SK.one 0 false <| .one 1 false <| .one 2 false <| .one 3 false <| .one 4 false <| .one 5 false <| .one 6 false <| .one 7 false <| .one 8 false .done) (fun V => (∀ j u, d.cells[j]? = some u → V.cell? ((ad.add (k * 32)).add j) = some u) ∧ (∀ j u, d'.cells[j]? = some u → V.cell? ((ad'.add (k * 32)).add j) = some u)) (by kernel_rfl) (by kernel_rfl) (by kernel_rfl) (by kernel_rfl) ?_
        have hS : (∀ j u, d.cells[j]? = some u → wr.drew.cell? ((ad.add (k * 32)).add j) = some u) ∧ (∀ j u, d'.cells[j]? = some u → wr.drew.cell? ((ad'.add (k * 32)).add j) = some u) := ⟨HC.out, HC'.out⟩
        ((first | (refine TR.val2 (v := ?_) _ (by simp only [List.getElem?_toArray, List.getElem?_cons_zero]; rfl) ?_ ?_ ?_ ?_ ?_; rotate_left; (focus rfl); (focus (intro W hSW; (try dsimp only at hSW); (try (obtain ⟨hS1, hSW⟩ := hSW)); (try (obtain ⟨hS2, hSW⟩ := hSW)); (try (obtain ⟨hS3, hSW⟩ := hSW)); (try (obtain ⟨hS4, hSW⟩ := hSW)); (try (obtain ⟨hS5, hSW⟩ := hSW)); (try (obtain ⟨hS6, hSW⟩ := hSW)); (try (obtain ⟨hS7, hSW⟩ := hSW)); (try (obtain ⟨hS8, hSW⟩ := hSW)); go_simp; (try with_reducible rfl); done)); (focus exact fun _ _ _ h => h); (focus assumption)) | (refine TR.skip _ (by simp only [List.getElem?_toArray, List.getElem?_cons_zero]; rfl) ?_ ?_ ?_ ?_; (focus rfl); (focus exact fun _ _ _ h => h); (focus assumption))); simp only [Act.put, List.setIfInBounds_toArray, List.set_cons_zero, List.set_cons_succ])
        iterate 2 ((first | (refine TR.val2 (v := ?_) _ (by simp only [List.getElem?_toArray, List.getElem?_cons_succ, List.getElem?_cons_zero]; rfl) ?_ ?_ ?_ ?_ ?_; rotate_left; (focus rfl); (focus (intro W hSW; (try dsimp only at hSW); (try (obtain ⟨hS1, hSW⟩ := hSW)); (try (obtain ⟨hS2, hSW⟩ := hSW)); (try (obtain ⟨hS3, hSW⟩ := hSW)); (try (obtain ⟨hS4, hSW⟩ := hSW)); (try (obtain ⟨hS5, hSW⟩ := hSW)); (try (obtain ⟨hS6, hSW⟩ := hSW)); (try (obtain ⟨hS7, hSW⟩ := hSW)); (try (obtain ⟨hS8, hSW⟩ := hSW)); go_simp; (try with_reducible rfl); done)); (focus exact fun _ _ _ h => h); (focus assumption)) | (refine TR.skip _ (by simp only [List.getElem?_toArray, List.getElem?_cons_succ, List.getElem?_cons_zero]; rfl) ?_ ?_ ?_ ?_; (focus rfl); (focus exact fun _ _ _ h => h); (focus assumption))); simp only [Act.put, List.setIfInBounds_toArray, List.set_cons_zero, List.set_cons_succ])
        refine TR.val2 (v := .agg d.cells.toArray) _ (by simp only [List.getElem?_toArray, List.getElem?_cons_succ, List.getElem?_cons_zero]; rfl) ?_ ?_ ?_ ?_ ?_
        (focus rfl)
        (focus exact fun V hV => exec_load_slot 70 (.tmp 19) rfl (ad.add (k * 32)) rfl d.cells _ hV.1 Tryz.underlying70 rfl (HI9.out.trans (by rw [Dg.cells_len])))
        (focus exact fun _ _ _ h => h)
        (focus exact hS)
        simp only [Act.put, List.setIfInBounds_toArray, List.set_cons_zero, List.set_cons_succ]
        iterate 3 ((first | (refine TR.val2 (v := ?_) _ (by simp only [List.getElem?_toArray, List.getElem?_cons_succ, List.getElem?_cons_zero]; rfl) ?_ ?_ ?_ ?_ ?_; rotate_left; (focus rfl); (focus (intro W hSW; (try dsimp only at hSW); (try (obtain ⟨hS1, hSW⟩ := hSW)); (try (obtain ⟨hS2, hSW⟩ := hSW)); (try (obtain ⟨hS3, hSW⟩ := hSW)); (try (obtain ⟨hS4, hSW⟩ := hSW)); (try (obtain ⟨hS5, hSW⟩ := hSW)); (try (obtain ⟨hS6, hSW⟩ := hSW)); (try (obtain ⟨hS7, hSW⟩ := hSW)); (try (obtain ⟨hS8, hSW⟩ := hSW)); go_simp; (try with_reducible rfl); done)); (focus exact fun _ _ _ h => h); (focus assumption)) | (refine TR.skip _ (by simp only [List.getElem?_toArray, List.getElem?_cons_succ, List.getElem?_cons_zero]; rfl) ?_ ?_ ?_ ?_; (focus rfl); (focus exact fun _ _ _ h => h); (focus assumption))); simp only [Act.put, List.setIfInBounds_toArray, List.set_cons_zero, List.set_cons_succ])
        refine TR.val2 (v := .agg d'.cells.toArray) _ (by simp only [List.getElem?_toArray, List.getElem?_cons_succ, List.getElem?_cons_zero]; rfl) ?_ ?_ ?_ ?_ ?_
        (focus rfl)
        (focus exact fun V hV => exec_load_slot 70 (.tmp 23) rfl (ad'.add (k * 32)) rfl d'.cells _ hV.2 Tryz.underlying70 rfl (HI9.out.trans (by rw [Dg.cells_len])))
        (focus exact fun _ _ _ h => h)
        (focus exact hS)
        simp only [Act.put, List.setIfInBounds_toArray, List.set_cons_zero, List.set_cons_succ]
        iterate 1 ((first | (refine TR.val2 (v := ?_) _ (by simp only [List.getElem?_toArray, List.getElem?_cons_succ, List.getElem?_cons_zero]; rfl) ?_ ?_ ?_ ?_ ?_; rotate_left; (focus rfl); (focus (intro W hSW; (try dsimp only at hSW); (try (obtain ⟨hS1, hSW⟩ := hSW)); (try (obtain ⟨hS2, hSW⟩ := hSW)); (try (obtain ⟨hS3, hSW⟩ := hSW)); (try (obtain ⟨hS4, hSW⟩ := hSW)); (try (obtain ⟨hS5, hSW⟩ := hSW)); (try (obtain ⟨hS6, hSW⟩ := hSW)); (try (obtain ⟨hS7, hSW⟩ := hSW)); (try (obtain ⟨hS8, hSW⟩ := hSW)); go_simp; (try with_reducible rfl); done)); (focus exact fun _ _ _ h => h); (focus assumption)) | (refine TR.skip _ (by simp only [List.getElem?_toArray, List.getElem?_cons_succ, List.getElem?_cons_zero]; rfl) ?_ ?_ ?_ ?_; (focus rfl); (focus exact fun _ _ _ h => h); (focus assumption))); simp only [Act.put, List.setIfInBounds_toArray, List.set_cons_zero, List.set_cons_succ])
        refine TR.done ?_
        clear hS
        go_wp2
        go_ret
        exact ⟨by rw [decide_eq_false HN.out]; rfl, HB.out.drew⟩
    · obtain rfl : k = n := by omega
      have HN := Lib.hid (show ds = ds' by
        have h1 := HT.out
        rwa [List.take_of_length_le (by rw [HD.out.len]; exact Nat.le_refl _), List.take_of_length_le (by rw [HE.out.len]; exact Nat.le_refl _)] at h1)
      go_wp2
      go_ret
      exact ⟨by rw [decide_eq_true HN.out]; rfl, HB.out⟩

/-- Are lists the same? -/
def sameP (s l s' l' : Int) (ds ds' : List Dg) : Bool := decide (s = s') && (decide (l = l') && decide (ds = ds'))
set_option maxRecDepth 100000 in
set_option maxHeartbeats 4000000 in
theorem bsame_v (s l s' l' : Int) (A A' : Option Addr) (n c n' c' B : Nat) (ds ds' : List Dg) (w : World) (hd : DReads w B A n ds) (he : DReads w B A' n' ds') (hB : B ≤ w.heap.size) (hn : n ≤ 9007199254740992) :
    Calls Tryz.prog 29 #[.agg #[.int .i64 s, .int .i64 l, .slice A n c], .agg #[.int .i64 s', .int .i64 l', .slice A' n' c']] w fun e w' => e = .returned (.bool (sameP s l s' l' ds ds')) ∧ Below w.heap.size w w' := by
  have BA := Lib.hid (((Below.refl w.heap.size w).alloc (Nat.le_refl _) (.cells #[.int .i64 s, .int .i64 l, .slice A n c] 25)).alloc (by simp) (.cells #[.int .i64 s', .int .i64 l', .slice A' n' c'] 25))
  have Y := Lib.hid (heap_alloc2_new w (.cells #[.int .i64 s, .int .i64 l, .slice A n c] 25) (.cells #[.int .i64 s', .int .i64 l', .slice A' n' c'] 25))
  have X := Lib.hid (heap_alloc2_old w (.cells #[.int .i64 s, .int .i64 l, .slice A n c] 25) (.cells #[.int .i64 s', .int .i64 l', .slice A' n' c'] 25))
  have hz : ((w.alloc (.cells #[.int .i64 s, .int .i64 l, .slice A n c] 25)).alloc (.cells #[.int .i64 s', .int .i64 l', .slice A' n' c'] 25)).heap.size = w.heap.size + 2 := by simp
  go_enter Tryz.func29, Tryz.ntmps29
  go_upto_region 1 with fail
  generalize (w.alloc (.cells #[.int .i64 s, .int .i64 l, .slice A n c] 25)).alloc (.cells #[.int .i64 s', .int .i64 l', .slice A' n' c'] 25) = w1 at *
  have EV := Lib.hid (eqs_v A A' n c n' c' B ds ds' w1 (hd.below (BA.out.mono hB)) (he.below (BA.out.mono hB)) (by omega) hn)
  have c0 : w1.cell? ⟨w.heap.size, 0, none⟩ = some (.int .i64 s) := by rw [cell_of_row _ _ 0 _ _ _ X.out]; rfl
  have c1 : w1.cell? ⟨w.heap.size, 1, none⟩ = some (.int .i64 l) := by rw [cell_of_row _ _ 1 _ _ _ X.out]; rfl
  have c2 : w1.cell? ⟨w.heap.size, 2, none⟩ = some (.slice A n c) := by rw [cell_of_row _ _ 2 _ _ _ X.out]; rfl
  have c3 : w1.cell? ⟨w.heap.size + 1, 0, none⟩ = some (.int .i64 s') := by rw [cell_of_row _ _ 0 _ _ _ Y.out]; rfl
  have c4 : w1.cell? ⟨w.heap.size + 1, 1, none⟩ = some (.int .i64 l') := by rw [cell_of_row _ _ 1 _ _ _ Y.out]; rfl
  have c5 : w1.cell? ⟨w.heap.size + 1, 2, none⟩ = some (.slice A' n' c') := by rw [cell_of_row _ _ 2 _ _ _ Y.out]; rfl
  clear hd he X Y
  by_cases h1 : s = s'
  · have e1 : (s == s') = true := by simpa using h1
    by_cases h2 : l = l'
    · have e2 : (l == l') = true := by simpa using h2
      have HR := Lib.hid (show sameP s l s' l' ds ds' = decide (ds = ds') by simp [sameP, h1, h2])
      clear h1 h2
      generalize decide (ds = ds') = r at *
      go_wp2_with fail
      refine EV.out.mono ?_
      rintro e w2 ⟨rfl, b2⟩
      have B2 := Lib.hid (BA.out.trans (b2.mono (by omega)))
      clear b2
      go_wp2
      go_ret
      exact ⟨by rw [HR.out]; rfl, B2.out⟩
    · have e2 : (l == l') = false := by simpa using h2
      have HR := Lib.hid (show sameP s l s' l' ds ds' = false by simp [sameP, h2])
      clear h1 h2
      go_wp2
      go_ret
      exact ⟨by rw [HR.out]; rfl, BA.out⟩
  · have e1 : (s == s') = false := by simpa using h1
    have HR := Lib.hid (show sameP s l s' l' ds ds' = false by simp [sameP, h1])
    clear h1
    go_wp2
    go_ret
    exact ⟨by rw [HR.out]; rfl, BA.out⟩


set_option maxRecDepth 100000 in
set_option maxHeartbeats 4000000 in
theorem list_v (s l s' l' : Int) (A A' : Option Addr) (n c n' c' B : Nat) (ds ds' : List Dg) (w : World) (hd : DReads w B A n ds) (he : DReads w B A' n' ds') (hB : B ≤ w.heap.size) (hn : n ≤ 9007199254740992) :
    Calls Tryz.prog 41 #[.agg #[.int .i64 s, .int .i64 l, .slice A n c], .agg #[.int .i64 s', .int .i64 l', .slice A' n' c']] w fun e w' => e = .returned (.bool (sameP s l s' l' ds ds')) ∧ Below w.heap.size w w' := by
  have BA := Lib.hid (((Below.refl w.heap.size w).alloc (Nat.le_refl _) (.cells #[.int .i64 s, .int .i64 l, .slice A n c] 25)).alloc (by simp) (.cells #[.int .i64 s', .int .i64 l', .slice A' n' c'] 25))
  have Y := Lib.hid (heap_alloc2_new w (.cells #[.int .i64 s, .int .i64 l, .slice A n c] 25) (.cells #[.int .i64 s', .int .i64 l', .slice A' n' c'] 25))
  have X := Lib.hid (heap_alloc2_old w (.cells #[.int .i64 s, .int .i64 l, .slice A n c] 25) (.cells #[.int .i64 s', .int .i64 l', .slice A' n' c'] 25))
  have hz : ((w.alloc (.cells #[.int .i64 s, .int .i64 l, .slice A n c] 25)).alloc (.cells #[.int .i64 s', .int .i64 l', .slice A' n' c'] 25)).heap.size = w.heap.size + 2 := by simp
  go_enter Tryz.func41, Tryz.ntmps41
  go_upto_region 1 with fail
  generalize (w.alloc (.cells #[.int .i64 s, .int .i64 l, .slice A n c] 25)).alloc (.cells #[.int .i64 s', .int .i64 l', .slice A' n' c'] 25) = w1 at *
  have EV := Lib.hid (digests_v A A' n c n' c' B ds ds' w1 (hd.below (BA.out.mono hB)) (he.below (BA.out.mono hB)) (by omega) hn)
  have c0 : w1.cell? ⟨w.heap.size, 0, none⟩ = some (.int .i64 s) := by rw [cell_of_row _ _ 0 _ _ _ X.out]; rfl
  have c1 : w1.cell? ⟨w.heap.size, 1, none⟩ = some (.int .i64 l) := by rw [cell_of_row _ _ 1 _ _ _ X.out]; rfl
  have c2 : w1.cell? ⟨w.heap.size, 2, none⟩ = some (.slice A n c) := by rw [cell_of_row _ _ 2 _ _ _ X.out]; rfl
  have c3 : w1.cell? ⟨w.heap.size + 1, 0, none⟩ = some (.int .i64 s') := by rw [cell_of_row _ _ 0 _ _ _ Y.out]; rfl
  have c4 : w1.cell? ⟨w.heap.size + 1, 1, none⟩ = some (.int .i64 l') := by rw [cell_of_row _ _ 1 _ _ _ Y.out]; rfl
  have c5 : w1.cell? ⟨w.heap.size + 1, 2, none⟩ = some (.slice A' n' c') := by rw [cell_of_row _ _ 2 _ _ _ Y.out]; rfl
  clear hd he X Y
  by_cases h1 : s = s'
  · have e1 : (s == s') = true := by simpa using h1
    by_cases h2 : l = l'
    · have e2 : (l == l') = true := by simpa using h2
      have HR := Lib.hid (show sameP s l s' l' ds ds' = decide (ds = ds') by simp [sameP, h1, h2])
      clear h1 h2
      generalize decide (ds = ds') = r at *
      go_wp2_with fail
      refine EV.out.mono ?_
      rintro e w2 ⟨rfl, b2⟩
      have B2 := Lib.hid (BA.out.trans (b2.mono (by omega)))
      clear b2
      go_wp2
      go_ret
      exact ⟨by rw [HR.out]; rfl, B2.out⟩
    · have e2 : (l == l') = false := by simpa using h2
      have HR := Lib.hid (show sameP s l s' l' ds ds' = false by simp [sameP, h2])
      clear h1 h2
      go_wp2
      go_ret
      exact ⟨by rw [HR.out]; rfl, BA.out⟩
  · have e1 : (s == s') = false := by simpa using h1
    have HR := Lib.hid (show sameP s l s' l' ds ds' = false by simp [sameP, h1])
    clear h1
    go_wp2
    go_ret
    exact ⟨by rw [HR.out]; rfl, BA.out⟩

set_option maxRecDepth 100000 in
set_option maxHeartbeats 4000000 in
theorem rsame_v (s l s' l' : Int) (A A' : Option Addr) (n c n' c' B : Nat) (ds ds' : List Dg) (w : World) (hd : DReads w B A n ds) (he : DReads w B A' n' ds') (hB : B ≤ w.heap.size) (hn : n ≤ 9007199254740992) :
    Calls Tryz.prog 32 #[.agg #[.int .i64 s, .int .i64 l, .slice A n c], .agg #[.int .i64 s', .int .i64 l', .slice A' n' c']] w fun e w' => e = .returned (.bool (sameP s l s' l' ds ds')) ∧ Below w.heap.size w w' := by
  have BA := Lib.hid (((Below.refl w.heap.size w).alloc (Nat.le_refl _) (.cells #[.int .i64 s, .int .i64 l, .slice A n c] 25)).alloc (by simp) (.cells #[.int .i64 s', .int .i64 l', .slice A' n' c'] 25))
  have Y := Lib.hid (heap_alloc2_new w (.cells #[.int .i64 s, .int .i64 l, .slice A n c] 25) (.cells #[.int .i64 s', .int .i64 l', .slice A' n' c'] 25))
  have X := Lib.hid (heap_alloc2_old w (.cells #[.int .i64 s, .int .i64 l, .slice A n c] 25) (.cells #[.int .i64 s', .int .i64 l', .slice A' n' c'] 25))
  have hz : ((w.alloc (.cells #[.int .i64 s, .int .i64 l, .slice A n c] 25)).alloc (.cells #[.int .i64 s', .int .i64 l', .slice A' n' c'] 25)).heap.size = w.heap.size + 2 := by simp
  go_enter Tryz.func32, Tryz.ntmps32
  go_upto_region 1 with fail
  generalize (w.alloc (.cells #[.int .i64 s, .int .i64 l, .slice A n c] 25)).alloc (.cells #[.int .i64 s', .int .i64 l', .slice A' n' c'] 25) = w1 at *
  have HD := Lib.hid (hd.below (BA.out.mono hB))
  have HE := Lib.hid (he.below (BA.out.mono hB))
  have hl := hd.len
  have hl' := he.len
  have HCC := Lib.hid (show ∀ V, Below w1.heap.size w1 V → V.cell? ⟨w.heap.size, 0, none⟩ = some (.int .i64 s) ∧ V.cell? ⟨w.heap.size, 1, none⟩ = some (.int .i64 l) ∧ V.cell? ⟨w.heap.size, 2, none⟩ = some (.slice A n c) ∧ V.cell? ⟨w.heap.size + 1, 0, none⟩ = some (.int .i64 s') ∧ V.cell? ⟨w.heap.size + 1, 1, none⟩ = some (.int .i64 l') ∧ V.cell? ⟨w.heap.size + 1, 2, none⟩ = some (.slice A' n' c') from fun V hV => by
    have x1 := (hV.block w.heap.size (by omega)).trans X.out
    have y1 := (hV.block (w.heap.size + 1) (by omega)).trans Y.out
    exact ⟨by rw [cell_of_row _ _ 0 _ _ _ x1]; rfl, by rw [cell_of_row _ _ 1 _ _ _ x1]; rfl, by rw [cell_of_row _ _ 2 _ _ _ x1]; rfl, by rw [cell_of_row _ _ 0 _ _ _ y1]; rfl, by rw [cell_of_row _ _ 1 _ _ _ y1]; rfl, by rw [cell_of_row _ _ 2 _ _ _ y1]; rfl⟩)
  obtain ⟨c0, c1, c2, c3, c4, c5⟩ := HCC.out w1 (Below.refl _ _)
  clear hd he X Y
  by_cases h1 : s = s'
  case neg =>
    have e1 : (s != s') = true := by rw [bne_iff_ne]; exact h1
    have HR := Lib.hid (show sameP s l s' l' ds ds' = false by simp [sameP, h1])
    clear h1
    go_wp2
    go_ret
    exact ⟨by rw [HR.out]; rfl, BA.out⟩
  have e1 : (s != s') = false := by rw [bne_eq_false_iff_eq]; exact h1
  by_cases h2 : l = l'
  case neg =>
    have e2 : (l != l') = true := by rw [bne_iff_ne]; exact h2
    have HR := Lib.hid (show sameP s l s' l' ds ds' = false by simp [sameP, h2])
    clear h1 h2
    go_wp2
    go_ret
    exact ⟨by rw [HR.out]; rfl, BA.out⟩
  have e2 : (l != l') = false := by rw [bne_eq_false_iff_eq]; exact h2
  have HR := Lib.hid (show sameP s l s' l' ds ds' = decide (ds = ds') by simp [sameP, h1, h2])
  clear h1 h2
  by_cases hnn : n = n'
  case neg =>
    have d1 : ((n : Int) != (n' : Int)) = true := by rw [bne_iff_ne]; omega
    have HR2 := Lib.hid (show decide (ds = ds') = false by
      rw [decide_eq_false_iff_not]
      intro e
      subst e
      omega)
    clear hl hl'
    go_wp2
    go_ret
    exact ⟨by rw [HR.out, HR2.out]; rfl, BA.out⟩
  subst hnn
  clear hl hl'
  go_wp2
  clear c0 c1 c2 c3 c4 c5 e1 e2
  go_loopw [5] (fun i wr => ∃ k : Nat, k ≤ n ∧ i = .int .i64 (k : Int) ∧ ds.take k = ds'.take k ∧ Below w1.heap.size w1 wr) (fun i _ => n - (intOf i).toNat)
  case atStart => exact ⟨0, Nat.zero_le _, rfl, by simp, Below.refl _ _⟩
  case round =>
    obtain ⟨k, hk, rfl, ht, hb⟩ := hrel
    have HT := Lib.hid ht
    have HB := Lib.hid hb
    clear ht hb
    by_cases hlt : k < n
    · obtain ⟨ad, d, rfl, hd, hc⟩ := HD.out.at_ hlt
      obtain ⟨ad', d', rfl, hd', hc'⟩ := HE.out.at_ hlt
      have HC := Lib.hid (hc wr (HB.out.mono (by omega)))
      have HC' := Lib.hid (hc' wr (HB.out.mono (by omega)))
      have k0 : (0 : Int) ≤ (k : Int) := by omega
      have HX := Lib.hid hd
      have HX' := Lib.hid hd'
      have HI9 := Lib.hid (show (Tryz.prog.info? 70).map (·.size) = some 32 by kernel_rfl)
      have hne : ∀ V : World, (binOp .neq 70 (.agg d.cells.toArray) (.agg d'.cells.toArray)).run Tryz.prog V = .ok (.bool (!(d.1 == d'.1))) V := fun V => neqd d d' V
      clear hd hd' hc hc'
      obtain ⟨_, _, c2, _, _, c5⟩ := HCC.out wr HB.out
      by_cases hdd : d.1 = d'.1
      · have HN := Lib.hid (take_eq_step HT.out HX.out HX'.out (Subtype.ext hdd))
        have e1 : (!(d.1 == d'.1)) = false := by simpa using hdd
        rw [e1] at hne
        clear e1 hdd
        go_upto_region 6 with fail
        refine wp_region_tree (SK.one 0 false <| .one 1 false <| .one 2 false <| .one 3 false <| .one 4 false <| .one 5 false <| .one 6 false <| .one 7 false <| .one 8 false <| .one 9 false <| .one 10 false .done) (fun V => V.cell? ⟨w.heap.size, 2, none⟩ = some (.slice (some ad) n c) ∧ V.cell? ⟨w.heap.size + 1, 2, none⟩ = some (.slice (some ad') n c') ∧ (∀ j u, d.cells[j]? = some u → V.cell? ((ad.add (k * 32)).add j) = some u) ∧ (∀ j u, d'.cells[j]? = some u → V.cell? ((ad'.add (k * 32)).add j) = some u)) (by kernel_rfl) (by kernel_rfl) (by kernel_rfl) (by kernel_rfl) ?_
        have hS : wr.drew.cell? ⟨w.heap.size, 2, none⟩ = some (.slice (some ad) n c) ∧ wr.drew.cell? ⟨w.heap.size + 1, 2, none⟩ = some (.slice (some ad') n c') ∧ (∀ j u, d.cells[j]? = some u → wr.drew.cell? ((ad.add (k * 32)).add j) = some u) ∧ (∀ j u, d'.cells[j]? = some u → wr.drew.cell? ((ad'.add (k * 32)).add j) = some u) := ⟨c2, c5, HC.out, HC'.out⟩
        ((first | (refine TR.val2 (v := ?_) _ (by simp only [List.getElem?_toArray, List.getElem?_cons_zero]; rfl) ?_ ?_ ?_ ?_ ?_; rotate_left; (focus rfl); (focus (intro W hSW; (try dsimp only at hSW); (try (obtain ⟨hS1, hSW⟩ := hSW)); (try (obtain ⟨hS2, hSW⟩ := hSW)); (try (obtain ⟨hS3, hSW⟩ := hSW)); (try (obtain ⟨hS4, hSW⟩ := hSW)); (try (obtain ⟨hS5, hSW⟩ := hSW)); (try (obtain ⟨hS6, hSW⟩ := hSW)); (try (obtain ⟨hS7, hSW⟩ := hSW)); (try (obtain ⟨hS8, hSW⟩ := hSW)); go_simp; (try with_reducible rfl); done)); (focus exact fun _ _ _ h => h); (focus assumption)) | (refine TR.skip _ (by simp only [List.getElem?_toArray, List.getElem?_cons_zero]; rfl) ?_ ?_ ?_ ?_; (focus rfl); (focus exact fun _ _ _ h => h); (focus assumption))); simp only [Act.put, List.setIfInBounds_toArray, List.set_cons_zero, List.set_cons_succ])
        iterate 3 ((first | (refine TR.val2 (v := ?_) _ (by simp only [List.getElem?_toArray, List.getElem?_cons_succ, List.getElem?_cons_zero]; rfl) ?_ ?_ ?_ ?_ ?_; rotate_left; (focus rfl); (focus (intro W hSW; (try dsimp only at hSW); (try (obtain ⟨hS1, hSW⟩ := hSW)); (try (obtain ⟨hS2, hSW⟩ := hSW)); (try (obtain ⟨hS3, hSW⟩ := hSW)); (try (obtain ⟨hS4, hSW⟩ := hSW)); (try (obtain ⟨hS5, hSW⟩ := hSW)); (try (obtain ⟨hS6, hSW⟩ := hSW)); (try (obtain ⟨hS7, hSW⟩ := hSW)); (try (obtain ⟨hS8, hSW⟩ := hSW)); go_simp; (try with_reducible rfl); done)); (focus exact fun _ _ _ h => h); (focus assumption)) | (refine TR.skip _ (by simp only [List.getElem?_toArray, List.getElem?_cons_succ, List.getElem?_cons_zero]; rfl) ?_ ?_ ?_ ?_; (focus rfl); (focus exact fun _ _ _ h => h); (focus assumption))); simp only [Act.put, List.setIfInBounds_toArray, List.set_cons_zero, List.set_cons_succ])
        refine TR.val2 (v := .agg d.cells.toArray) _ (by simp only [List.getElem?_toArray, List.getElem?_cons_succ, List.getElem?_cons_zero]; rfl) ?_ ?_ ?_ ?_ ?_
        (focus rfl)
        (focus exact fun V hV => exec_load_slot 70 (.tmp 37) rfl (ad.add (k * 32)) rfl d.cells _ hV.2.2.1 Tryz.underlying70 rfl (HI9.out.trans (by rw [Dg.cells_len])))
        (focus exact fun _ _ _ h => h)
        (focus exact hS)
        simp only [Act.put, List.setIfInBounds_toArray, List.set_cons_zero, List.set_cons_succ]
        iterate 4 ((first | (refine TR.val2 (v := ?_) _ (by simp only [List.getElem?_toArray, List.getElem?_cons_succ, List.getElem?_cons_zero]; rfl) ?_ ?_ ?_ ?_ ?_; rotate_left; (focus rfl); (focus (intro W hSW; (try dsimp only at hSW); (try (obtain ⟨hS1, hSW⟩ := hSW)); (try (obtain ⟨hS2, hSW⟩ := hSW)); (try (obtain ⟨hS3, hSW⟩ := hSW)); (try (obtain ⟨hS4, hSW⟩ := hSW)); (try (obtain ⟨hS5, hSW⟩ := hSW)); (try (obtain ⟨hS6, hSW⟩ := hSW)); (try (obtain ⟨hS7, hSW⟩ := hSW)); (try (obtain ⟨hS8, hSW⟩ := hSW)); go_simp; (try with_reducible rfl); done)); (focus exact fun _ _ _ h => h); (focus assumption)) | (refine TR.skip _ (by simp only [List.getElem?_toArray, List.getElem?_cons_succ, List.getElem?_cons_zero]; rfl) ?_ ?_ ?_ ?_; (focus rfl); (focus exact fun _ _ _ h => h); (focus assumption))); simp only [Act.put, List.setIfInBounds_toArray, List.set_cons_zero, List.set_cons_succ])
        refine TR.val2 (v := .agg d'.cells.toArray) _ (by simp only [List.getElem?_toArray, List.getElem?_cons_succ, List.getElem?_cons_zero]; rfl) ?_ ?_ ?_ ?_ ?_
        (focus rfl)
        (focus exact fun V hV => exec_load_slot 70 (.tmp 42) rfl (ad'.add (k * 32)) rfl d'.cells _ hV.2.2.2 Tryz.underlying70 rfl (HI9.out.trans (by rw [Dg.cells_len])))
        (focus exact fun _ _ _ h => h)
        (focus exact hS)
        simp only [Act.put, List.setIfInBounds_toArray, List.set_cons_zero, List.set_cons_succ]
        iterate 1 ((first | (refine TR.val2 (v := ?_) _ (by simp only [List.getElem?_toArray, List.getElem?_cons_succ, List.getElem?_cons_zero]; rfl) ?_ ?_ ?_ ?_ ?_; rotate_left; (focus rfl); (focus (intro W hSW; (try dsimp only at hSW); (try (obtain ⟨hS1, hSW⟩ := hSW)); (try (obtain ⟨hS2, hSW⟩ := hSW)); (try (obtain ⟨hS3, hSW⟩ := hSW)); (try (obtain ⟨hS4, hSW⟩ := hSW)); (try (obtain ⟨hS5, hSW⟩ := hSW)); (try (obtain ⟨hS6, hSW⟩ := hSW)); (try (obtain ⟨hS7, hSW⟩ := hSW)); (try (obtain ⟨hS8, hSW⟩ := hSW)); go_simp; (try with_reducible rfl); done)); (focus exact fun _ _ _ h => h); (focus assumption)) | (refine TR.skip _ (by simp only [List.getElem?_toArray, List.getElem?_cons_succ, List.getElem?_cons_zero]; rfl) ?_ ?_ ?_ ?_; (focus rfl); (focus exact fun _ _ _ h => h); (focus assumption))); simp only [Act.put, List.setIfInBounds_toArray, List.set_cons_zero, List.set_cons_succ])
        refine TR.done ?_
        clear hS
        go_wp2
        go_roundw
        case rel => exact ⟨k + 1, hlt, by go_num, HN.out, HB.out.drew⟩
        case measure => simp [intOf]; omega
      · have HN := Lib.hid (ne_at HX.out HX'.out (fun e => hdd (by rw [e])))
        have e1 : (!(d.1 == d'.1)) = true := by simpa using hdd
        rw [e1] at hne
        clear e1 hdd
        go_upto_region 6 with fail
        refine wp_region_tree (SK.one 0 false <| .one 1 false <| .one 2 false <| .one 3 false <| .one 4 false <| .one 5 false <| .one 6 false <| .one 7 false <| .one 8 false <| .one 9 false <| .one 10 false .done) (fun V => V.cell? ⟨w.heap.size, 2, none⟩ = some (.slice (some ad) n c) ∧ V.cell? ⟨w.heap.size + 1, 2, none⟩ = some (.slice (some ad') n c') ∧ (∀ j u, d.cells[j]? = some u → V.cell? ((ad.add (k * 32)).add j) = some u) ∧ (∀ j u, d'.cells[j]? = some u → V.cell? ((ad'.add (k * 32)).add j) = some u)) (by kernel_rfl) (by kernel_rfl) (by kernel_rfl) (by kernel_rfl) ?_
        have hS : wr.drew.cell? ⟨w.heap.size, 2, none⟩ = some (.slice (some ad) n c) ∧ wr.drew.cell? ⟨w.heap.size + 1, 2, none⟩ = some (.slice (some ad') n c') ∧ (∀ j u, d.cells[j]? = some u → wr.drew.cell? ((ad.add (k * 32)).add j) = some u) ∧ (∀ j u, d'.cells[j]? = some u → wr.drew.cell? ((ad'.add (k * 32)).add j) = some u) := ⟨c2, c5, HC.out, HC'.out⟩
        ((first | (refine TR.val2 (v := ?_) _ (by simp only [List.getElem?_toArray, List.getElem?_cons_zero]; rfl) ?_ ?_ ?_ ?_ ?_; rotate_left; (focus rfl); (focus (intro W hSW; (try dsimp only at hSW); (try (obtain ⟨hS1, hSW⟩ := hSW)); (try (obtain ⟨hS2, hSW⟩ := hSW)); (try (obtain ⟨hS3, hSW⟩ := hSW)); (try (obtain ⟨hS4, hSW⟩ := hSW)); (try (obtain ⟨hS5, hSW⟩ := hSW)); (try (obtain ⟨hS6, hSW⟩ := hSW)); (try (obtain ⟨hS7, hSW⟩ := hSW)); (try (obtain ⟨hS8, hSW⟩ := hSW)); go_simp; (try with_reducible rfl); done)); (focus exact fun _ _ _ h => h); (focus assumption)) | (refine TR.skip _ (by simp only [List.getElem?_toArray, List.getElem?_cons_zero]; rfl) ?_ ?_ ?_ ?_; (focus rfl); (focus exact fun _ _ _ h => h); (focus assumption))); simp only [Act.put, List.setIfInBounds_toArray, List.set_cons_zero, List.set_cons_succ])
        iterate 3 ((first | (refine TR.val2 (v := ?_) _ (by simp only [List.getElem?_toArray, List.getElem?_cons_succ, List.getElem?_cons_zero]; rfl) ?_ ?_ ?_ ?_ ?_; rotate_left; (focus rfl); (focus (intro W hSW; (try dsimp only at hSW); (try (obtain ⟨hS1, hSW⟩ := hSW)); (try (obtain ⟨hS2, hSW⟩ := hSW)); (try (obtain ⟨hS3, hSW⟩ := hSW)); (try (obtain ⟨hS4, hSW⟩ := hSW)); (try (obtain ⟨hS5, hSW⟩ := hSW)); (try (obtain ⟨hS6, hSW⟩ := hSW)); (try (obtain ⟨hS7, hSW⟩ := hSW)); (try (obtain ⟨hS8, hSW⟩ := hSW)); go_simp; (try with_reducible rfl); done)); (focus exact fun _ _ _ h => h); (focus assumption)) | (refine TR.skip _ (by simp only [List.getElem?_toArray, List.getElem?_cons_succ, List.getElem?_cons_zero]; rfl) ?_ ?_ ?_ ?_; (focus rfl); (focus exact fun _ _ _ h => h); (focus assumption))); simp only [Act.put, List.setIfInBounds_toArray, List.set_cons_zero, List.set_cons_succ])
        refine TR.val2 (v := .agg d.cells.toArray) _ (by simp only [List.getElem?_toArray, List.getElem?_cons_succ, List.getElem?_cons_zero]; rfl) ?_ ?_ ?_ ?_ ?_
        (focus rfl)
        (focus exact fun V hV => exec_load_slot 70 (.tmp 37) rfl (ad.add (k * 32)) rfl d.cells _ hV.2.2.1 Tryz.underlying70 rfl (HI9.out.trans (by rw [Dg.cells_len])))
        (focus exact fun _ _ _ h => h)
        (focus exact hS)
        simp only [Act.put, List.setIfInBounds_toArray, List.set_cons_zero, List.set_cons_succ]
        iterate 4 ((first | (refine TR.val2 (v := ?_) _ (by simp only [List.getElem?_toArray, List.getElem?_cons_succ, List.getElem?_cons_zero]; rfl) ?_ ?_ ?_ ?_ ?_; rotate_left; (focus rfl); (focus (intro W hSW; (try dsimp only at hSW); (try (obtain ⟨hS1, hSW⟩ := hSW)); (try (obtain ⟨hS2, hSW⟩ := hSW)); (try (obtain ⟨hS3, hSW⟩ := hSW)); (try (obtain ⟨hS4, hSW⟩ := hSW)); (try (obtain ⟨hS5, hSW⟩ := hSW)); (try (obtain ⟨hS6, hSW⟩ := hSW)); (try (obtain ⟨hS7, hSW⟩ := hSW)); (try (obtain ⟨hS8, hSW⟩ := hSW)); go_simp; (try with_reducible rfl); done)); (focus exact fun _ _ _ h => h); (focus assumption)) | (refine TR.skip _ (by simp only [List.getElem?_toArray, List.getElem?_cons_succ, List.getElem?_cons_zero]; rfl) ?_ ?_ ?_ ?_; (focus rfl); (focus exact fun _ _ _ h => h); (focus assumption))); simp only [Act.put, List.setIfInBounds_toArray, List.set_cons_zero, List.set_cons_succ])
        refine TR.val2 (v := .agg d'.cells.toArray) _ (by simp only [List.getElem?_toArray, List.getElem?_cons_succ, List.getElem?_cons_zero]; rfl) ?_ ?_ ?_ ?_ ?_
        (focus rfl)
        (focus exact fun V hV => exec_load_slot 70 (.tmp 42) rfl (ad'.add (k * 32)) rfl d'.cells _ hV.2.2.2 Tryz.underlying70 rfl (HI9.out.trans (by rw [Dg.cells_len])))
        (focus exact fun _ _ _ h => h)
        (focus exact hS)
        simp only [Act.put, List.setIfInBounds_toArray, List.set_cons_zero, List.set_cons_succ]
        iterate 1 ((first | (refine TR.val2 (v := ?_) _ (by simp only [List.getElem?_toArray, List.getElem?_cons_succ, List.getElem?_cons_zero]; rfl) ?_ ?_ ?_ ?_ ?_; rotate_left; (focus rfl); (focus (intro W hSW; (try dsimp only at hSW); (try (obtain ⟨hS1, hSW⟩ := hSW)); (try (obtain ⟨hS2, hSW⟩ := hSW)); (try (obtain ⟨hS3, hSW⟩ := hSW)); (try (obtain ⟨hS4, hSW⟩ := hSW)); (try (obtain ⟨hS5, hSW⟩ := hSW)); (try (obtain ⟨hS6, hSW⟩ := hSW)); (try (obtain ⟨hS7, hSW⟩ := hSW)); (try (obtain ⟨hS8, hSW⟩ := hSW)); go_simp; (try with_reducible rfl); done)); (focus exact fun _ _ _ h => h); (focus assumption)) | (refine TR.skip _ (by simp only [List.getElem?_toArray, List.getElem?_cons_succ, List.getElem?_cons_zero]; rfl) ?_ ?_ ?_ ?_; (focus rfl); (focus exact fun _ _ _ h => h); (focus assumption))); simp only [Act.put, List.setIfInBounds_toArray, List.set_cons_zero, List.set_cons_succ])
        refine TR.done ?_
        clear hS
        go_wp2
        go_ret
        exact ⟨by rw [HR.out, decide_eq_false HN.out]; rfl, (BA.out.trans (HB.out.mono (by omega))).drew⟩
    · obtain rfl : k = n := by omega
      obtain ⟨_, _, c2, _, _, c5⟩ := HCC.out wr HB.out
      have HN := Lib.hid (show ds = ds' by
        have h1 := HT.out
        rwa [List.take_of_length_le (by rw [HD.out.len]; exact Nat.le_refl _), List.take_of_length_le (by rw [HE.out.len]; exact Nat.le_refl _)] at h1)
      go_wp2
      go_ret
      exact ⟨by rw [HR.out, decide_eq_true HN.out]; rfl, (BA.out.trans (HB.out.mono (by omega)))⟩
end Go.Proofs.YtndekohimfjdeaaGreatDoor

namespace Go.Proofs.YtndekohimfjdeaaGreatDoor
open Go.RowKit Go.Shelf
end Go.Proofs.YtndekohimfjdeaaGreatDoor

namespace Go.Proofs.YtndekohimfjdeaaGreatDoor
open Go.RowKit Go.Shelf
/-- A record. -/
structure Rcd where
  path : Bl
  v : List (Int × Nat)
  dev : Int
  gone : Bool
  size : Int
  len : Int
  ds : List Dg
/-- Is a list the zero list? -/
def emptyR (r : Rcd) : Bool := decide (r.size = 0) && decide (r.len = 0) && decide (r.ds.length = 0)
/-- What Check of a record answers. -/
def okR (r : Rcd) : Nat :=
  if checkL r.path ≠ 0 then checkL r.path
  else if okV 0 r.v = false then 2
  else if chk r.size r.len r.ds.length = 3 then 3
  else if val r.v r.dev = 0 ∨ (r.gone = true ∧ emptyR r = false) ∨ (r.gone = false ∧ chk r.size r.len r.ds.length ≠ 0) then 2 else 0
end Go.Proofs.YtndekohimfjdeaaGreatDoor

namespace Go.Proofs.YtndekohimfjdeaaGreatDoor
open Go.RowKit Go.Shelf
set_option maxHeartbeats 4000000 in
theorem empty_v (s l : Int) (D : Option Addr) (m d : Nat) (w : World) (hm : m ≤ 9007199254740992) :
    Calls Tryz.prog 51 #[.agg #[.int .i64 s, .int .i64 l, .slice D m d]] w fun e w' => e = .returned (.bool (decide (s = 0) && decide (l = 0) && decide (m = 0))) ∧ Below w.heap.size w w' := by
  have BA := Lib.hid ((Below.refl w.heap.size w).alloc (Nat.le_refl _) (.cells #[.int .i64 s, .int .i64 l, .slice D m d] 25))
  by_cases h1 : s = 0
  · subst h1
    by_cases h2 : l = 0
    · subst h2
      by_cases h3 : m = 0
      · have d3 : ((m : Int) == 0) = true := by simp [h3]
        have HR := Lib.hid (show decide (m = 0) = true by simpa using h3)
        clear h3
        go_enter Tryz.func51, Tryz.ntmps51
        go_wp2_with fail
        go_ret
        exact ⟨by rw [HR.out]; first | rfl | simp [d3], BA.out⟩
      · have d3 : ((m : Int) == 0) = false := by simp [h3]
        have HR := Lib.hid (show decide (m = 0) = false by simpa using h3)
        clear h3
        go_enter Tryz.func51, Tryz.ntmps51
        go_wp2_with fail
        go_ret
        exact ⟨by rw [HR.out]; first | rfl | simp [d3], BA.out⟩
    · have d2 : (l == 0) = false := by simpa using h2
      have HR := Lib.hid (show decide (l = 0) = false by simpa using h2)
      clear h2
      go_enter Tryz.func51, Tryz.ntmps51
      go_wp2_with fail
      go_ret
      exact ⟨by rw [HR.out]; first | rfl | simp [d3], BA.out⟩
  · have d1 : (s == 0) = false := by simpa using h1
    have HR := Lib.hid (show decide (s = 0) = false by simpa using h1)
    clear h1
    go_enter Tryz.func51, Tryz.ntmps51
    go_wp2_with fail
    go_ret
    exact ⟨by rw [HR.out]; first | rfl | simp [d3], BA.out⟩
set_option maxHeartbeats 4000000 in
theorem bare_v (s l : Int) (D : Option Addr) (m d : Nat) (w : World) (hm : m ≤ 9007199254740992) :
    Calls Tryz.prog 57 #[.agg #[.int .i64 s, .int .i64 l, .slice D m d]] w fun e w' => e = .returned (.bool (decide (s = 0) && decide (l = 0) && decide (m = 0))) ∧ Below w.heap.size w w' := by
  have BA := Lib.hid ((Below.refl w.heap.size w).alloc (Nat.le_refl _) (.cells #[.int .i64 s, .int .i64 l, .slice D m d] 25))
  by_cases h1 : s = 0
  · subst h1
    by_cases h2 : l = 0
    · subst h2
      by_cases h3 : m = 0
      · have d3 : ((m : Int) == 0) = true := by simp [h3]
        have HR := Lib.hid (show decide (m = 0) = true by simpa using h3)
        clear h3
        go_enter Tryz.func57, Tryz.ntmps57
        go_wp2_with fail
        go_ret
        exact ⟨by rw [HR.out]; first | rfl | simp [d3], BA.out⟩
      · have d3 : ((m : Int) == 0) = false := by simp [h3]
        have HR := Lib.hid (show decide (m = 0) = false by simpa using h3)
        clear h3
        go_enter Tryz.func57, Tryz.ntmps57
        go_wp2_with fail
        go_ret
        exact ⟨by rw [HR.out]; first | rfl | simp [d3], BA.out⟩
    · have d2 : (l == 0) = false := by simpa using h2
      have HR := Lib.hid (show decide (l = 0) = false by simpa using h2)
      clear h2
      go_enter Tryz.func57, Tryz.ntmps57
      go_wp2_with fail
      go_ret
      exact ⟨by rw [HR.out]; first | rfl | simp [d3], BA.out⟩
  · have d1 : (s == 0) = false := by simpa using h1
    have HR := Lib.hid (show decide (s = 0) = false by simpa using h1)
    clear h1
    go_enter Tryz.func57, Tryz.ntmps57
    go_wp2_with fail
    go_ret
    exact ⟨by rw [HR.out]; first | rfl | simp [d3], BA.out⟩
end Go.Proofs.YtndekohimfjdeaaGreatDoor

namespace Go.Proofs.YtndekohimfjdeaaGreatDoor
open Go.RowKit Go.Shelf
/-- Where a record's slices lie. -/
structure RSh where
  A : Option Addr
  n : Nat
  c : Nat
  D : Option Addr
  m : Nat
  k : Nat
/-- The value of a record. -/
@[reducible] def rvl (r : Rcd) (a : RSh) : Value := .agg #[.string (st r.path), .slice a.A a.n a.c, .int .i64 r.dev, .bool r.gone, .int .i64 r.size, .int .i64 r.len, .slice a.D a.m a.k]
/-- A record's slices read as its lists. -/
structure RReads (w : World) (B : Nat) (r : Rcd) (a : RSh) : Prop where
  cs : CReads w B a.A a.n r.v
  dg : DReads w B a.D a.m r.ds
  hn : a.n ≤ 1000000
  hm : a.m ≤ 1000000
  ft : fitV r.v
theorem RReads.below {w w' : World} {B : Nat} {r : Rcd} {a : RSh} (h : RReads w B r a) (hb : Below B w w') : RReads w' B r a := ⟨Reads.below h.cs hb, h.dg.below hb, h.hn, h.hm, h.ft⟩
theorem RReads.more {w : World} {B B' : Nat} {r : Rcd} {a : RSh} (h : RReads w B r a) (hb : B ≤ B') : RReads w B' r a := ⟨Reads.more h.cs hb, Reads.more h.dg hb, h.hn, h.hm, h.ft⟩
theorem rcells_at {W : World} {g o : Nat} {vs : Array Value} {t : TypeId} {fr : Nat × Nat} {us : List Value} (h : W.heap[g]? = some (.cells vs t fr)) (hu : ∀ j v, us[j]? = some v → vs[o + j]? = some v) :
    ∀ j v, us[j]? = some v → W.cell? ((⟨g, o, none⟩ : Addr).add j) = some v := by
  intro j v hv
  have e : (⟨g, o, none⟩ : Addr).add j = ⟨g, o + j, none⟩ := by unfold Addr.add; by_cases hj : j = 0 <;> simp [hj]
  rw [e, cell_of_row _ _ (o + j) _ _ _ h]
  exact hu j v hv
theorem three_at {x y z : Value} {vs : Array Value} {o : Nat} (h0 : vs[o]? = some x) (h1 : vs[o + 1]? = some y) (h2 : vs[o + 2]? = some z) : ∀ j v, [x, y, z][j]? = some v → vs[o + j]? = some v
  | 0, v, h => by rw [← h]; exact h0
  | 1, v, h => by rw [← h]; exact h1
  | 2, v, h => by rw [← h]; exact h2
  | j + 3, v, h => by simp at h
set_option maxRecDepth 100000 in
set_option maxHeartbeats 8000000 in
theorem recCheck_v (r : Rcd) (a : RSh) (B : Nat) (w : World) (he : EnvM w) (hr : RReads w B r a) (hB : B ≤ w.heap.size) :
    Calls Tryz.prog 27 #[.agg #[.string (st r.path), .slice a.A a.n a.c, .int .i64 r.dev, .bool r.gone, .int .i64 r.size, .int .i64 r.len, .slice a.D a.m a.k]] w fun e w' => e = .returned (.int .i64 (okR r : Int)) ∧ Below w.heap.size w w' := by
  obtain ⟨p, v, dv, g, s, l, ds⟩ := r
  obtain ⟨A, n, c, D, m, k⟩ := a
  dsimp only
  have HI := Lib.hid (show (Tryz.prog.info? 25).map (·.size) = some 3 by kernel_rfl)
  have HR := Lib.hid hr
  have HE := Lib.hid he
  have hn := hr.hn
  have hm := hr.hm
  have hml : ds.length = m := hr.dg.len
  dsimp only at hn hm
  clear hr he
  have BA := Lib.hid ((Below.refl w.heap.size w).alloc (Nat.le_refl _) (.cells #[.string (st p), .slice A n c, .int .i64 dv, .bool g, .int .i64 s, .int .i64 l, .slice D m k] 27))
  have X1 := Lib.hid (heap_alloc_new w (.cells #[.string (st p), .slice A n c, .int .i64 dv, .bool g, .int .i64 s, .int .i64 l, .slice D m k] 27))
  have hz : (w.alloc (.cells #[.string (st p), .slice A n c, .int .i64 dv, .bool g, .int .i64 s, .int .i64 l, .slice D m k] 27)).heap.size = w.heap.size + 1 := by simp
  have HOK := Lib.hid (show okR ⟨p, v, dv, g, s, l, ds⟩ = if checkL p ≠ 0 then checkL p else if okV 0 v = false then 2 else if chk s l m = 3 then 3 else if val v dv = 0 ∨ (g = true ∧ (decide (s = 0) && decide (l = 0) && decide (m = 0)) = false) ∨ (g = false ∧ chk s l m ≠ 0) then 2 else 0 by
    rw [← hml]; rfl)
  go_enter Tryz.func27, Tryz.ntmps27
  go_wp2_with fail
  generalize w.alloc (.cells #[.string (st p), .slice A n c, .int .i64 dv, .bool g, .int .i64 s, .int .i64 l, .slice D m k] 27) = w1 at *
  refine (pcheckM_v p w1 (HE.out.below BA.out)).mono ?_
  rintro e w2 ⟨rfl, b2⟩
  have X2 := Lib.hid ((b2.block w.heap.size (by omega)).trans X1.out)
  have B2 := Lib.hid (BA.out.trans (b2.mono (by omega)))
  have hz2 : w.heap.size + 1 ≤ w2.heap.size := by have := b2.size; omega
  clear X1 BA b2
  by_cases h1 : checkL p = 0
  case neg =>
    have d1 : ((checkL p : Int) != 0) = true := by rw [bne_iff_ne]; omega
    have HQ := Lib.hid (show okR ⟨p, v, dv, g, s, l, ds⟩ = checkL p by rw [HOK.out, if_pos h1])
    clear h1
    generalize checkL p = q at *
    go_wp2
    go_ret
    exact ⟨by rw [HQ.out]; rfl, B2.out⟩
  have HQ1 := Lib.hid (HOK.out.trans (if_neg (by omega)))
  clear HOK
  rw [h1]
  clear h1
  have c1 : w2.cell? ⟨w.heap.size, 1, none⟩ = some (.slice A n c) := by rw [cell_of_row _ _ 1 _ _ _ X2.out]; rfl
  go_wp2_with fail
  refine (check_v B A n c v w2 (Reads.below HR.out.cs (B2.out.mono hB)) (by omega) (by omega)).mono ?_
  rintro e w3 ⟨rfl, b3⟩
  have X3 := Lib.hid ((b3.block w.heap.size (by omega)).trans X2.out)
  have B3 := Lib.hid (B2.out.trans (b3.mono (by omega)))
  have hz3 : w.heap.size + 1 ≤ w3.heap.size := by have := b3.size; omega
  clear X2 B2 b3 c1
  cases h2 : okV 0 v
  · have HQ := Lib.hid (HQ1.out.trans (if_pos h2))
    clear h2
    go_wp2
    go_ret
    exact ⟨by rw [HQ.out]; rfl, B3.out⟩
  have HQ2 := Lib.hid (HQ1.out.trans (if_neg (by rw [h2]; decide)))
  clear HQ1 h2
  go_wp2_with (first
    | (refine wpList_load_slot rfl 25 (.tmp 18) rfl ⟨w.heap.size, 4, none⟩ rfl [.int .i64 s, .int .i64 l, .slice D m k] _ (rcells_at X3.out (three_at rfl rfl rfl)) Tryz.underlying25 rfl HI.out ?_)
    | fail)
  refine (bcheck_v s l D m k w3 (by omega)).mono ?_
  rintro e w4 ⟨rfl, b4⟩
  have X4 := Lib.hid ((b4.block w.heap.size (by omega)).trans X3.out)
  have B4 := Lib.hid (B3.out.trans (b4.mono (by omega)))
  have hz4 : w.heap.size + 1 ≤ w4.heap.size := by have := b4.size; omega
  clear X3 B3 b4
  by_cases h3 : chk s l m = 3
  · have HQ := Lib.hid (HQ2.out.trans (if_pos h3))
    rw [h3]
    clear h3
    go_wp2
    go_ret
    exact ⟨by rw [HQ.out]; rfl, B4.out⟩
  have HQ3 := Lib.hid (HQ2.out.trans (if_neg h3))
  have d3 : ((chk s l m : Int) == 3) = false := by rw [beq_eq_false_iff_ne]; omega
  clear HQ2 h3
  have CK := Lib.hid (show ∀ W : World, Calls Tryz.prog 49 #[.agg #[.int .i64 s, .int .i64 l, .slice D m k]] W fun e w' => e = .returned (.int .i64 (chk s l m : Int)) ∧ Below W.heap.size W w' from fun W => bcheck_v s l D m k W (by omega))
  generalize chk s l m = q at *
  have c1 : w4.cell? ⟨w.heap.size, 1, none⟩ = some (.slice A n c) := by rw [cell_of_row _ _ 1 _ _ _ X4.out]; rfl
  have c2 : w4.cell? ⟨w.heap.size, 2, none⟩ = some (.int .i64 dv) := by rw [cell_of_row _ _ 2 _ _ _ X4.out]; rfl
  go_wp2_with fail
  refine (val_v B A n c v dv w4 (Reads.below HR.out.cs (B4.out.mono hB)) (by omega) (by omega)).mono ?_
  rintro e w5 ⟨rfl, b5⟩
  have X5 := Lib.hid ((b5.block w.heap.size (by omega)).trans X4.out)
  have B5 := Lib.hid (B4.out.trans (b5.mono (by omega)))
  have hz5 : w.heap.size + 1 ≤ w5.heap.size := by have := b5.size; omega
  clear X4 B4 b5 c1 c2
  by_cases h4 : val v dv = 0
  · have HQ := Lib.hid (HQ3.out.trans (if_pos (.inl h4)))
    have d4 : ((val v dv : Int) == 0) = true := by rw [beq_iff_eq]; omega
    clear h4
    generalize val v dv = x at *
    go_wp2
    go_ret
    exact ⟨by rw [HQ.out]; rfl, B5.out⟩
  have d4 : ((val v dv : Int) == 0) = false := by rw [beq_eq_false_iff_ne]; omega
  have c3 : w5.cell? ⟨w.heap.size, 3, none⟩ = some (.bool g) := by rw [cell_of_row _ _ 3 _ _ _ X5.out]; rfl
  cases g
  · by_cases h5 : q = 0
    · have HQ := Lib.hid (HQ3.out.trans (if_neg (by simp [h4, h5])))
      have d5 : ((q : Int) != 0) = false := by rw [bne_eq_false_iff_eq]; omega
      clear h4 h5 HQ3
      generalize val v dv = x at *
      go_wp2_with (first
        | (refine wpList_load_slot rfl 25 (.tmp 43) rfl ⟨w.heap.size, 4, none⟩ rfl [.int .i64 s, .int .i64 l, .slice D m k] _ (rcells_at X5.out (three_at rfl rfl rfl)) Tryz.underlying25 rfl HI.out ?_)
        | fail)
      refine (CK.out w5).mono ?_
      rintro e w6 ⟨rfl, b6⟩
      have B6 := Lib.hid (B5.out.trans (b6.mono (by omega)))
      clear b6
      go_wp2
      go_ret
      exact ⟨by rw [HQ.out]; rfl, B6.out⟩
    · have HQ := Lib.hid (HQ3.out.trans (if_pos (.inr (.inr ⟨rfl, h5⟩))))
      have d5 : ((q : Int) != 0) = true := by rw [bne_iff_ne]; omega
      clear h4 h5 HQ3
      generalize val v dv = x at *
      go_wp2_with (first
        | (refine wpList_load_slot rfl 25 (.tmp 43) rfl ⟨w.heap.size, 4, none⟩ rfl [.int .i64 s, .int .i64 l, .slice D m k] _ (rcells_at X5.out (three_at rfl rfl rfl)) Tryz.underlying25 rfl HI.out ?_)
        | fail)
      refine (CK.out w5).mono ?_
      rintro e w6 ⟨rfl, b6⟩
      have B6 := Lib.hid (B5.out.trans (b6.mono (by omega)))
      clear b6
      go_wp2
      go_ret
      exact ⟨by rw [HQ.out]; rfl, B6.out⟩
  · have HEM := Lib.hid (empty_v s l D m k)
    obtain ⟨em, hem⟩ : ∃ em, (decide (s = 0) && decide (l = 0) && decide (m = 0)) = em := ⟨_, rfl⟩
    rw [hem] at HEM HQ3
    clear hem
    cases em
    · have HQ := Lib.hid (HQ3.out.trans (if_pos (.inr (.inl ⟨rfl, rfl⟩))))
      clear h4 HQ3
      generalize val v dv = x at *
      go_wp2_with (first
        | (refine wpList_load_slot rfl 25 (.tmp 34) rfl ⟨w.heap.size, 4, none⟩ rfl [.int .i64 s, .int .i64 l, .slice D m k] _ (rcells_at X5.out (three_at rfl rfl rfl)) Tryz.underlying25 rfl HI.out ?_)
        | fail)
      refine (HEM.out w5 (by omega)).mono ?_
      rintro e w6 ⟨rfl, b6⟩
      have B6 := Lib.hid (B5.out.trans (b6.mono (by omega)))
      clear b6
      go_wp2
      go_ret
      exact ⟨by rw [HQ.out]; rfl, B6.out⟩
    · have HQ := Lib.hid (HQ3.out.trans (if_neg (by simp [h4])))
      clear h4 HQ3
      generalize val v dv = x at *
      go_wp2_with (first
        | (refine wpList_load_slot rfl 25 (.tmp 34) rfl ⟨w.heap.size, 4, none⟩ rfl [.int .i64 s, .int .i64 l, .slice D m k] _ (rcells_at X5.out (three_at rfl rfl rfl)) Tryz.underlying25 rfl HI.out ?_)
        | fail)
      refine (HEM.out w5 (by omega)).mono ?_
      rintro e w6 ⟨rfl, b6⟩
      have c3' : w6.cell? ⟨w.heap.size, 3, none⟩ = some (.bool true) := by rw [cell_of_row _ _ 3 _ _ _ ((b6.block w.heap.size (by omega)).trans X5.out)]; rfl
      have B6 := Lib.hid (B5.out.trans (b6.mono (by omega)))
      clear b6 c3
      go_wp2
      go_ret
      exact ⟨by rw [HQ.out]; rfl, B6.out⟩
end Go.Proofs.YtndekohimfjdeaaGreatDoor
