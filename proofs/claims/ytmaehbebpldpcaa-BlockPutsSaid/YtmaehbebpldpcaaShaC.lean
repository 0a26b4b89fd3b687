/-
  Digests: the primes' loop, roots.
-/
import Derived.Test.YtmaehbebpldpcaaShaB
import Derived.Deep.DeepFit
namespace Go.Proofs.Ytmaehbebpldpcaa
open Go.RowKit
def cellN (w : World) : Value → Nat
  | .pointer (some a) => match w.cell? a with
    | some (.int _ z) => z.toNat
    | _ => 0
  | _ => 0
theorem frozen_new (w : World) (cs : Array Value) (t : TypeId) : (w.alloc (.cells cs t)).frozen? ⟨w.heap.size, 0, none⟩ = false := by
  have := heap_alloc_new w (.cells cs t)
  simp only [World.frozen?, this]
  rfl
theorem cellN_of {w : World} {a : Addr} {k : IntKind} {x : Nat} (h : w.cell? a = some (.int k (x : Int))) : cellN w (.pointer (some a)) = x := by simp [cellN, h]
set_option maxHeartbeats 1000000 in
theorem primes_v (n K : Nat) (w : World) (h1 : (prs K).length = n) (h2 : ∀ k, k < K → (prs k).length < n) (hK : K ≤ 310) (hn : n ≤ 64) :
    Calls Try.prog 58 #[.int .i64 (n : Int)] w fun e w' => ∃ A c, e = .returned (.slice A n c) ∧ NOwn .u64 93 w' w.heap.size A n c (prs K) ∧ Below w.heap.size w w' := by
  have H1 := Lib.hid h1
  have H2 := Lib.hid h2
  clear h1 h2
  go_enter Try.func58, Try.ntmps58
  go_wp2
  go_loopw [3, 4] (fun o p wr => ∃ (k g m : Nat) (A : Option Addr) (c : Nat), k ≤ K ∧ Hid ((prs k).length = m) ∧ o = .slice A m c ∧ NOwn .u64 93 wr w.heap.size A m c (prs k) ∧ p = .pointer (some ⟨g, 0, none⟩) ∧ w.heap.size ≤ g ∧ g < wr.heap.size ∧
      wr.cell? ⟨g, 0, none⟩ = some (.int .u64 ((k + 2 : Nat) : Int)) ∧ wr.frozen? ⟨g, 0, none⟩ = false ∧ (∀ j, (Value.slice A m c).ownBlock = some j → j ≠ g) ∧ Below w.heap.size w wr) (fun _ p wr => 1000 - cellN wr p)
  case atStart => exact ⟨0, w.heap.size, 0, none, 0, Nat.zero_le _, Lib.hid rfl, rfl, NOwn.nil_ _ _, rfl, Nat.le_refl _, by simp, World.cell?_alloc_at _ _ _ _ rfl, frozen_new _ _ _ , by simp [Value.ownBlock], (Below.refl _ _).alloc (Nat.le_refl _) _⟩
  case round =>
    obtain ⟨k, g, m, A, c, hk, hm, rfl, hown, rfl, hg, hgs, hcell, hfr, hne, hb⟩ := hrel
    have HNE := Lib.hid hne
    have HCN := Lib.hid (cellN_of hcell)
    clear hne
    have hml : m ≤ 64 := by have := prs_mono' (show k ≤ K from hk); rw [hm.out, H1.out] at this; omega
    by_cases hlt : k < K
    · have d1 : decide (m < n) = true := by have := H2.out k hlt; rw [hm.out] at this; simpa using this
      have hbd : ∀ q ∈ prs k, 0 < q ∧ q < 18446744073709551616 := fun q hq => by have := prs_bd k q hq; omega
      cases ha : (prs k).any (fun q => (k+2) % q == 0)
      · have HA := Lib.hid ha
        have HN := Lib.hid (prs_new ha)
        have C := Lib.hid (cont_v (k + 2) ⟨g, 0, none⟩ _ A m c (prs k) wr (NOwn.reads hown) hcell (by omega) hbd (by omega))
        clear ha hbd
        rw [HA.out] at C
        go_wp2_with (first
          | (go_at_call 67; refine C.out.mono ?_; rintro e w' ⟨rfl, rfl⟩)
          | (at_builtin
             go_loud (
               refine wpList_app64 rfl (.tmp 15) (.tmp 17) rfl w.heap.size A m c (prs k) rfl (hown.alloc _) (wr.heap.size + 1) (some ⟨wr.heap.size, 0, none⟩) 1 1 [k + 2] rfl (NReads.one _ _ _ _ _ (by omega)) (m + 1) (prs (k + 1)) rfl HN.out.symm (by omega) (by simp; exact Nat.le_succ_of_le hb.size) ?_
               intro A1 c1 w1 hown1 hg1 hat1
               have hgb : w1.heap[g]? = wr.heap[g]? := (hg1.block g (by simp; omega) (fun e => HNE.out g e.symm rfl)).trans (Below.heap_alloc wr _ g hgs)
               have hz1 : wr.heap.size + 1 ≤ w1.heap.size := by have := hg1.size; simpa using this
               have hc1 : w1.cell? ⟨g, 0, none⟩ = some (.int .u64 ((k + 2 : Nat) : Int)) := (World.cell?_of_block hgb).trans hcell
               have hb1 : Below w.heap.size w w1 := (hb.alloc hb.size _).grown hg1 (by simp; exact Nat.le_succ_of_le hb.size) (fun j hj => (hown.base_le j hj).1)
               have HAT := Lib.hid hat1
               clear hgb hat1 hcell hfr)))
        go_roundw
        case rel =>
          refine ⟨k + 1, w1.heap.size, m + 1, A1, c1, hlt, ?_, rfl, hown1.alloc _, rfl, hb1.size, by simp, ?_, frozen_new _ _ _, fun j hj => ?_, hb1.alloc hb1.size _⟩
          · rw [HN.out, List.length_append, hm.out]; exact Lib.hid rfl
          · rw [World.cell?_alloc_at _ _ _ _ rfl]; simp; omega
          · have := (hown1.base_le j hj).2; omega
        case measure =>
          rw [HCN.out]
          simp only [cellN, World.cell?_alloc_at _ _ _ _ rfl]
          simp
          omega
      · have HA := Lib.hid ha
        have HN := Lib.hid (prs_hit ha)
        have C := Lib.hid (cont_v (k + 2) ⟨g, 0, none⟩ _ A m c (prs k) wr (NOwn.reads hown) hcell (by omega) hbd (by omega))
        clear ha hbd
        rw [HA.out] at C
        go_wp2_with (go_at_call 67; refine C.out.mono ?_; rintro e w' ⟨rfl, rfl⟩)
        go_roundw
        case rel =>
          refine ⟨k + 1, wr.heap.size, m, A, c, hlt, by rw [HN.out]; exact hm, rfl, by rw [HN.out]; exact hown.alloc _, rfl, hb.size, by simp, ?_, frozen_new _ _ _ , fun j hj => ?_, hb.alloc hb.size _⟩
          · rw [World.cell?_alloc_at _ _ _ _ rfl]; simp; omega
          · have := (hown.base_le j hj).2; omega
        case measure =>
          rw [HCN.out]
          simp only [cellN, World.cell?_alloc_at _ _ _ _ rfl]
          simp
          omega
    · obtain rfl : k = K := by omega
      obtain rfl : m = n := by have := hm.out; rw [H1.out] at this; exact this.symm
      go_wp2
      go_ret
      exact ⟨A, c, rfl, hown, hb⟩
set_option maxHeartbeats 1000000 in
theorem root_v (F : FuncId) (caps : List Value) (f : Nat → Bool) (w : World) (hen : ∀ args W, (callFunc F args).run Try.prog W = .ok (.enter F args) W)
    (hF : ∀ x : Nat, x < 68719476736 → Calls Try.prog F (.int .u64 (x : Int) :: caps).toArray w fun e w' => e = .returned (.bool (f x)) ∧ w = w') :
    Calls Try.prog 59 #[.func (.func F) #[] caps.toArray] w fun e w' => e = .returned (.int .u32 ((bis f 36 0 68719476736 % 4294967296 : Nat) : Int)) ∧ w = w' := by
  have HF := Lib.hid hF
  clear hF
  go_enter Try.func59, Try.ntmps59
  go_wp2
  go_loop [3, 4] (fun a b => ∃ k lo hi : Nat, a = .int .u64 (lo : Int) ∧ b = .int .u64 (hi : Int) ∧ lo < hi ∧ hi ≤ 68719476736 ∧ Hid (hi = lo + 2 ^ k) ∧ Hid (bis f 36 0 68719476736 = bis f k lo hi)) (fun a b => (intOf b - intOf a).toNat)
  case atStart => exact ⟨36, 0, 68719476736, rfl, rfl, by omega, by omega, Lib.hid (by decide), Lib.hid rfl⟩
  case round =>
    obtain ⟨k, lo, hi, rfl, rfl, hlo, hhi, hp, hb⟩ := hrel
    rcases k with _ | k
    · have d1 : decide ((1 : Int) < (hi : Int) - (lo : Int)) = false := by have := hp.out; simp at this ⊢; omega
      go_wp2
      go_ret
      exact ⟨ret_int (by rw [hb.out]; simp [bis]), rfl⟩
    · obtain ⟨m, hm⟩ : ∃ m, 2 ^ k = m := ⟨_, rfl⟩
      have hm0 : 0 < m := by rw [← hm]; exact Nat.two_pow_pos k
      have HP : Hid (hi = lo + 2 * m) := Lib.hid (by have := hp.out; rw [Nat.pow_succ, hm] at this; omega)
      have HM := Lib.hid hm
      clear hm
      obtain ⟨mid, hmid⟩ : ∃ mid, (lo + hi) / 2 = mid := ⟨_, rfl⟩
      have HMID := Lib.hid hmid
      have b1 : lo < mid := by have := HP.out; omega
      have b2 : mid < hi := by have := HP.out; omega
      clear hmid
      have d1 : decide ((1 : Int) < (hi : Int) - (lo : Int)) = true := by have := HP.out; simp; omega
      have d2 : ((lo : Int) + (hi : Int)) / 2 = (mid : Int) := by have := HMID.out; omega
      have C := Lib.hid (HF.out mid (by omega))
      cases hf : f mid
      · have HB := Lib.hid (show bis f 36 0 68719476736 = bis f k lo mid by rw [hb.out, bis, HMID.out, hf]; rfl)
        rw [hf] at C
        clear hf hb
        go_wp2_with fail
        refine C.out.mono ?_
        rintro e w' ⟨rfl, rfl⟩
        go_wp2
        go_round
        case rel => exact ⟨k, lo, mid, rfl, rfl, b1, by omega, Lib.hid (by have := HP.out; have := HMID.out; rw [HM.out]; omega), HB⟩
        case measure => simp [intOf]; omega
      · have HB := Lib.hid (show bis f 36 0 68719476736 = bis f k mid hi by rw [hb.out, bis, HMID.out, hf]; rfl)
        rw [hf] at C
        clear hf hb
        go_wp2_with fail
        refine C.out.mono ?_
        rintro e w' ⟨rfl, rfl⟩
        go_wp2
        go_round
        case rel => exact ⟨k, mid, hi, rfl, rfl, b2, hhi, Lib.hid (by have := HP.out; have := HMID.out; rw [HM.out]; omega), HB⟩
        case measure => simp [intOf]; omega
end Go.Proofs.Ytmaehbebpldpcaa
