/-
  Digests, the reference: words turned, primes, roots, the constants.
-/
import Derived.Test.YtmaehbebpldpcaaShaE
namespace Go.Proofs.Ytmaehbebpldpcaa
open Go.RowKit
theorem or_rotr (x n : Nat) (hx : x < 4294967296) : bits .or .u32 ((x : Int) / 2 ^ n) ((x : Int) * 2 ^ (32 - n) % 4294967296) = ((rotr x n : Nat) : Int) := by
  have h3 : x >>> n < 4294967296 := by
    rw [Nat.shiftRight_eq_div_pow]
    exact Nat.lt_of_le_of_lt (Nat.div_le_self _ _) hx
  have := u32_or_nat (x >>> n) ((x <<< (32 - n)) % 4294967296) h3 (Nat.mod_lt _ (by omega))
  rw [show rotr x n = (x <<< (32 - n)) % 4294967296 ||| x >>> n from rfl, Nat.or_comm, ← this, Nat.shiftLeft_eq, Nat.shiftRight_eq_div_pow]
  congr 1
  all_goals simp
set_option maxHeartbeats 800000 in
theorem rright_v (x : Nat) (B : Nat) (A : Option Addr) (n c : Nat) (l : List Nat) (w : World) (hr : NReads .i64 w B A n l) (hx : x < 4294967296) (hl : ∀ y ∈ l, 0 < y ∧ y < 32) (hn : n ≤ 9223372036854775807) :
    Calls Try.prog 66 #[.int .u32 (x : Int), .slice A n c] w fun e w' => e = .returned (.int .u32 (rightL x l : Int)) ∧ ∃ q, w' = w.drewN q := by
  go_enter Try.func66, Try.ntmps66
  go_wp2
  go_loopw [5, 6] (fun o i W => ∃ k : Nat, k ≤ n ∧ i = .int .i64 (k : Int) ∧ o = .int .u32 (rightL x (l.take k) : Int) ∧ ∃ q, W = w.drewN q) (fun _ i _ => n - (intOf i).toNat)
  case atStart => exact ⟨0, Nat.zero_le _, rfl, rfl, 0, (World.drewN_zero _).symm⟩
  case round =>
    obtain ⟨k, hk, rfl, rfl, q, rfl⟩ := hrel
    by_cases hlt : k < n
    · obtain ⟨ad, y, rfl, had, hcell, _, HT, hy⟩ := NReads.at2 hr hlt
      obtain ⟨y0, y1⟩ := hl y hy
      have HN := Lib.hid (rightL_snoc x y (l.take k))
      have b1 := rightL_lt x (l.take k) hx
      have b2 := rotr_lt x y hx
      obtain ⟨r, hr0⟩ : ∃ r, rightL x (l.take k) = r := ⟨_, rfl⟩
      rw [hr0] at HN b1 ⊢
      clear hr0
      have ex := u32_xor_nat r (rotr x y) b1 b2
      have d1 := dec_lt hlt
      have e3 := Lib.hid (or_rotr x y hx)
      go_wp2
      go_quiet (fail)
      go_wp2
      refine ⟨⟨k + 1, by omega, by go_num, ?_, q + nq, rfl⟩, by simp [intOf]; omega⟩
      rw [e3.out, ex, HT.out, HN.out]
    · obtain rfl : k = n := by omega
      have HF := Lib.hid (show l.take k = l by rw [List.take_of_length_le (by rw [NReads.len hr]; exact Nat.le_refl _)])
      rw [HF.out]
      have d1 := dec_nlt hlt
      go_wp2
      go_ret
      exact ⟨rfl, q, rfl⟩
/-- The reference's primes: what the inner loop computes. -/
theorem fine_all (p : Nat) (l : List Nat) : ∀ k, (l.take k).all (fun q => p % q != 0) = !(l.take k).any (fun q => p % q == 0) := by
  intro k
  induction l.take k with
  | nil => rfl
  | cons a l ih => rw [List.all_cons, List.any_cons, ih, Bool.not_or]; rfl
set_option maxHeartbeats 2000000 in
theorem rprimes_v (n K : Nat) (w : World) (h1 : (prs K).length = n) (h2 : ∀ k, k < K → (prs k).length < n) (hK : K ≤ 310) (hn : n ≤ 64) :
    Calls Try.prog 64 #[.int .i64 (n : Int)] w fun e w' => ∃ A c, e = .returned (.slice A n c) ∧ NOwn .u64 93 w' w.heap.size A n c (prs K) ∧ Below w.heap.size w w' := by
  have H1 := Lib.hid h1
  have H2 := Lib.hid h2
  clear h1 h2
  go_enter Try.func64, Try.ntmps64
  go_wp2
  go_loopw [3, 4] (fun o p wr => ∃ (k m : Nat) (A : Option Addr) (c : Nat), k ≤ K ∧ Hid ((prs k).length = m) ∧ o = .slice A m c ∧ NOwn .u64 93 wr w.heap.size A m c (prs k) ∧ p = .int .u64 ((k + 2 : Nat) : Int) ∧ Below w.heap.size w wr) (fun _ p _ => 1000 - (intOf p).toNat)
  case atStart => exact ⟨0, 0, none, 0, Nat.zero_le _, Lib.hid rfl, rfl, NOwn.nil_ _ _, rfl, Below.refl _ _⟩
  case round =>
    obtain ⟨k, m, A, c, hk, hm, rfl, hown, rfl, hb⟩ := hrel
    have hml : m ≤ 64 := by have := prs_mono' (show k ≤ K from hk); rw [hm.out, H1.out] at this; omega
    have HO := Lib.hid hown
    have HB := Lib.hid hb
    clear hown hb
    obtain ⟨p, hp⟩ : ∃ p, k + 2 = p := ⟨_, rfl⟩
    have HP := Lib.hid hp
    rw [hp]
    have hpb : p ≤ 312 := by omega
    clear hp
    by_cases hlt : k < K
    · have d1 : decide (m < n) = true := by have := H2.out k hlt; rw [hm.out] at this; simpa using this
      go_wp2
      obtain ⟨wo, rfl⟩ : ∃ wo : World, wo = wr := ⟨_, rfl⟩
      go_loopw [5, 6] (fun f i W => ∃ j : Nat, j ≤ m ∧ i = .int .i64 (j : Int) ∧ f = .bool (((prs k).take j).all (fun q => p % q != 0)) ∧ W = wo) (fun _ i _ => m - (intOf i).toNat)
      case atStart => exact ⟨0, Nat.zero_le _, rfl, rfl, rfl⟩
      case round =>
        obtain ⟨j, hj, rfl, rfl, hw⟩ := hrel
        subst hw
        by_cases hjm : j < m
        · obtain ⟨ad, q, rfl, had, hcell, _, HT, hq⟩ := NReads.at2 HO.out.reads hjm
          have hqb := prs_bd k q hq
          have d2 := dec_lt hjm
          have HA := Lib.hid (show ((prs k).take (j + 1)).all (fun q => p % q != 0) = (((prs k).take j).all (fun q => p % q != 0) && (p % q != 0)) by rw [HT.out, List.all_append]; simp)
          clear hq
          obtain ⟨b, hbb⟩ : ∃ b, ((prs k).take j).all (fun q => p % q != 0) = b := ⟨_, rfl⟩
          rw [hbb] at HA ⊢
          clear hbb
          cases b
          · go_wp2
            go_roundw
            case rel => exact ⟨j + 1, hjm, by go_num, by rw [HA.out]; rfl, trivial⟩
            case measure => simp [intOf]; omega
          · have e1 : ((p : Int) % (q : Int) != 0) = (p % q != 0) := by rw [Bool.eq_iff_iff]; simp; omega
            obtain ⟨b, hbb⟩ : ∃ b, (p % q != 0) = b := ⟨_, rfl⟩
            rw [hbb] at e1 HA
            clear hbb
            go_wp2
            go_roundw
            case rel => exact ⟨j + 1, hjm, by go_num, by rw [HA.out]; rfl, trivial⟩
            case measure => simp [intOf]; omega
        · obtain rfl : j = m := by omega
          have d2 := dec_nlt hjm
          have HF := Lib.hid (show ((prs k).take j).all (fun q => p % q != 0) = !(prs k).any (fun q => (k + 2) % q == 0) by rw [fine_all, List.take_of_length_le (by rw [hm.out]; exact Nat.le_refl _), HP.out])
          rw [HF.out]
          cases ha : (prs k).any (fun q => (k+2) % q == 0)
          · have HN := Lib.hid (prs_new ha)
            rw [HP.out] at HN
            have HML := Lib.hid (show (prs (k + 1)).length = j + 1 by rw [HN.out, List.length_append, hm.out]; rfl)
            clear ha HF
            go_wp2_with (first
              | (at_builtin
                 go_loud (
                   refine wpList_app64 rfl (.tmp 30) (.tmp 32) rfl w.heap.size A j c (prs k) rfl (HO.out.alloc _) (wr.heap.size + 1) (some ⟨wr.heap.size, 0, none⟩) 1 1 [p] rfl (NReads.one _ _ _ _ _ (by omega)) (j + 1) (prs (k + 1)) rfl HN.out.symm (by omega) (by simp; exact Nat.le_succ_of_le HB.out.size) ?_
                   intro A1 c1 w1 hown1 hg1 hat1)))
            have hb1 : Below w.heap.size w w1 := (HB.out.alloc HB.out.size _).grown hg1 (by simp; exact Nat.le_succ_of_le HB.out.size) (fun j hj => (HO.out.base_le j hj).1)
            go_roundw
            case rel => exact ⟨k + 1, j + 1, A1, c1, hlt, HML, rfl, hown1, by rw [← HP.out]; go_num, hb1⟩
            case measure => simp [intOf]; omega
          · have HN := Lib.hid (prs_hit ha)
            clear ha HF
            go_wp2
            go_roundw
            case rel => exact ⟨k + 1, j, A, c, hlt, by rw [HN.out]; exact hm, rfl, by rw [HN.out]; exact HO.out, by rw [← HP.out]; go_num, HB.out⟩
            case measure => simp [intOf]; omega
    · obtain rfl : k = K := by omega
      obtain rfl : m = n := by have := hm.out; rw [H1.out] at this; exact this.symm
      have d1 := dec_nlt (Nat.lt_irrefl m)
      go_wp2
      go_ret
      exact ⟨A, c, rfl, HO.out, HB.out⟩
set_option maxHeartbeats 2000000 in
theorem lessS_v (p x : Nat) (w : World) (hp : p < 18446744073709551616) (hx : x < 137438953472) :
    Calls Try.prog 70 #[.int .u64 (x : Int), .int .u64 (p : Int), .bool false] w fun e w' => e = .returned (.bool (sqOk p x)) ∧ w = w' := by
  obtain ⟨h, hh⟩ : ∃ h, x*x/18446744073709551616 = h := ⟨_, rfl⟩
  obtain ⟨l, hl⟩ : ∃ l, x*x%18446744073709551616 = l := ⟨_, rfl⟩
  have M := mul64_v x x w (by omega) (by omega)
  have HS := Lib.hid (sqOk_of (p := p) hh hl)
  rw [hh, hl] at M
  have HM := Lib.hid M
  have b1 : l < 18446744073709551616 := by omega
  have b2 : h < 18446744073709551616 := by
    have : x * x ≤ 137438953472 * 137438953472 := Nat.mul_le_mul (by omega) (by omega)
    omega
  clear hh hl M
  rcases Nat.lt_trichotomy h p with h1 | h1 | h1
  · have d1 := dec_lt h1
    have HR := Lib.hid (show sqOk p x = true by rw [HS.out, d1]; rfl)
    rw [HR.out]
    go_enter Try.func70, Try.ntmps70
    go_wp2_with (go_at_call 61; refine HM.out.mono ?_; rintro e w' ⟨rfl, rfl⟩)
    go_ret
    exact ⟨rfl, rfl⟩
  · subst h1
    by_cases h0 : l = 0
    · subst h0
      have d1 := dec_nlt (Nat.lt_irrefl h)
      have HR := Lib.hid (show sqOk h x = true by rw [HS.out, d1]; simp)
      rw [HR.out]
      go_enter Try.func70, Try.ntmps70
      go_wp2_with (go_at_call 61; refine HM.out.mono ?_; rintro e w' ⟨rfl, rfl⟩)
      go_ret
      exact ⟨rfl, rfl⟩
    · have d1 := dec_nlt (Nat.lt_irrefl h)
      have d2 := beq_ne0 h0
      have HR := Lib.hid (show sqOk h x = false by rw [HS.out, d1]; simp [h0])
      rw [HR.out]
      go_enter Try.func70, Try.ntmps70
      go_wp2_with (go_at_call 61; refine HM.out.mono ?_; rintro e w' ⟨rfl, rfl⟩)
      go_ret
      exact ⟨rfl, rfl⟩
  · have d1 := dec_nlt (show ¬ h < p by omega)
    have d2 := beq_ne (show h ≠ p by omega)
    have HR := Lib.hid (show sqOk p x = false by rw [HS.out, d1]; simp; omega)
    rw [HR.out]
    go_enter Try.func70, Try.ntmps70
    go_wp2_with (go_at_call 61; refine HM.out.mono ?_; rintro e w' ⟨rfl, rfl⟩)
    go_ret
    exact ⟨rfl, rfl⟩
set_option maxHeartbeats 3000000 in
theorem lessC_v (p x : Nat) (w : World) (hp : p < 4294967296) (hx : x < 137438953472) :
    Calls Try.prog 70 #[.int .u64 (x : Int), .int .u64 (p : Int), .bool true] w fun e w' => e = .returned (.bool (cubeOk p x)) ∧ w = w' := by
  obtain ⟨h, hh⟩ : ∃ h, x*x/18446744073709551616 = h := ⟨_, rfl⟩
  obtain ⟨l, hl⟩ : ∃ l, x*x%18446744073709551616 = l := ⟨_, rfl⟩
  have b1 : l < 18446744073709551616 := by omega
  have b2 : h ≤ 1024 := by
    have : x * x ≤ 137438953472 * 137438953472 := Nat.mul_le_mul (by omega) (by omega)
    omega
  have M := mul64_v x x w (by omega) (by omega)
  have M2 := mul64_v l x w b1 (by omega)
  obtain ⟨c, hcc⟩ : ∃ c, l*x/18446744073709551616 = c := ⟨_, rfl⟩
  obtain ⟨lo, hlo⟩ : ∃ lo, l*x%18446744073709551616 = lo := ⟨_, rfl⟩
  obtain ⟨m, hm⟩ : ∃ m, h*x = m := ⟨_, rfl⟩
  have b3 : m ≤ 140737488355328 := by rw [← hm]; exact Nat.mul_le_mul b2 (show x ≤ 137438953472 by omega)
  have b4' : c ≤ 137438953472 := by
    have : l * x ≤ 18446744073709551616 * 137438953472 := Nat.mul_le_mul (by omega) (by omega)
    omega
  have b5 : lo < 18446744073709551616 := by omega
  have HS := Lib.hid (cubeOk_of (p := p) hh hl hcc hlo (show h*x+c = m+c by rw [hm]) rfl)
  rw [hh, hl] at M
  rw [hcc, hlo] at M2
  have HM := Lib.hid M
  have HM2 := Lib.hid M2
  have e1 : (h : Int) * (x : Int) = (m : Int) := by rw [← hm]; exact (Int.natCast_mul h x).symm
  clear hh hl hcc hlo hm M M2
  have e2 : (p : Int) * 4294967296 = ((p * 4294967296 : Nat) : Int) := by omega
  obtain ⟨P, hP⟩ : ∃ P, p * 4294967296 = P := ⟨_, rfl⟩
  rw [hP] at HS e2
  have b6 : P < 18446744073709551616 := by omega
  clear hP
  obtain ⟨hi, hhi⟩ : ∃ hi, m + c = hi := ⟨_, rfl⟩
  rw [hhi] at HS
  have e3 : (c : Int) + (m : Int) = (hi : Int) := by omega
  have b7 : hi < 18446744073709551616 := by omega
  clear hhi
  rcases Nat.lt_trichotomy hi P with h1 | h1 | h1
  · have d1 := dec_lt h1
    have HR := Lib.hid (show cubeOk p x = true by rw [HS.out, d1]; rfl)
    rw [HR.out]
    go_enter Try.func70, Try.ntmps70
    go_wp2_with fail
    refine HM.out.mono ?_
    rintro e w' ⟨rfl, rfl⟩
    go_wp2_with fail
    refine HM2.out.mono ?_
    rintro e w' ⟨rfl, rfl⟩
    go_wp2
    go_ret
    exact ⟨rfl, rfl⟩
  · subst h1
    by_cases h0 : lo = 0
    · subst h0
      have d1 := dec_nlt (Nat.lt_irrefl hi)
      have HR := Lib.hid (show cubeOk p x = true by rw [HS.out, d1]; simp)
      rw [HR.out]
      go_enter Try.func70, Try.ntmps70
      go_wp2_with fail
      refine HM.out.mono ?_
      rintro e w' ⟨rfl, rfl⟩
      go_wp2_with fail
      refine HM2.out.mono ?_
      rintro e w' ⟨rfl, rfl⟩
      go_wp2
      go_ret
      exact ⟨rfl, rfl⟩
    · have d1 := dec_nlt (Nat.lt_irrefl hi)
      have d2 := beq_ne0 h0
      have HR := Lib.hid (show cubeOk p x = false by rw [HS.out, d1]; simp [h0])
      rw [HR.out]
      go_enter Try.func70, Try.ntmps70
      go_wp2_with fail
      refine HM.out.mono ?_
      rintro e w' ⟨rfl, rfl⟩
      go_wp2_with fail
      refine HM2.out.mono ?_
      rintro e w' ⟨rfl, rfl⟩
      go_wp2
      go_ret
      exact ⟨rfl, rfl⟩
  · have d1 := dec_nlt (show ¬ hi < P by omega)
    have d2 := beq_ne (show hi ≠ P by omega)
    have HR := Lib.hid (show cubeOk p x = false by rw [HS.out, d1]; simp; omega)
    rw [HR.out]
    go_enter Try.func70, Try.ntmps70
    go_wp2_with fail
    refine HM.out.mono ?_
    rintro e w' ⟨rfl, rfl⟩
    go_wp2_with fail
    refine HM2.out.mono ?_
    rintro e w' ⟨rfl, rfl⟩
    go_wp2
    go_ret
    exact ⟨rfl, rfl⟩
set_option maxHeartbeats 1000000 in
theorem rroot_v (p : Nat) (cube : Bool) (f : Nat → Bool) (w : World)
    (hF : ∀ x : Nat, x < 137438953472 → Calls Try.prog 70 #[.int .u64 (x : Int), .int .u64 (p : Int), .bool cube] w fun e w' => e = .returned (.bool (f x)) ∧ w = w') (h36 : f 68719476736 = false) :
    Calls Try.prog 65 #[.int .u64 (p : Int), .bool cube] w fun e w' => e = .returned (.int .u32 ((bis f 36 0 68719476736 % 4294967296 : Nat) : Int)) ∧ w = w' := by
  have HF := Lib.hid hF
  have HE : Hid (bis f 37 0 137438953472 = bis f 36 0 68719476736) := Lib.hid (by
    show (if f ((0 + 137438953472) / 2) = true then _ else _) = _
    rw [show (0 + 137438953472) / 2 = 68719476736 from rfl, h36]
    rfl)
  clear hF h36
  go_enter Try.func65, Try.ntmps65
  go_wp2
  go_loop [5, 6] (fun a b => ∃ k lo hi : Nat, a = .int .u64 (lo : Int) ∧ b = .int .u64 (hi : Int) ∧ lo < hi ∧ hi ≤ 137438953472 ∧ Hid (hi = lo + 2 ^ k) ∧ Hid (bis f 37 0 137438953472 = bis f k lo hi)) (fun a b => (intOf b - intOf a).toNat)
  case atStart => exact ⟨37, 0, 137438953472, rfl, rfl, by omega, by omega, Lib.hid (by decide), Lib.hid rfl⟩
  case round =>
    obtain ⟨k, lo, hi, rfl, rfl, hlo, hhi, hp, hb⟩ := hrel
    rcases k with _ | k
    · have d1 : decide ((1 : Int) < (hi : Int) - (lo : Int)) = false := by have := hp.out; simp at this ⊢; omega
      go_wp2
      go_ret
      exact ⟨ret_int (by rw [← HE.out, hb.out]; simp [bis]), rfl⟩
    · obtain ⟨m, hm⟩ : ∃ m, 2 ^ k = m := ⟨_, rfl⟩
      have hm0 : 0 < m := by rw [← hm]; exact Nat.two_pow_pos k
      have HP : Hid (hi = lo + 2 * m) := Lib.hid (by have := hp.out; rw [Nat.pow_succ, hm] at this; omega)
      have HM := Lib.hid hm
      clear hm
      obtain ⟨mid, hmid⟩ : ∃ mid, (lo + hi) / 2 = mid := ⟨_, rfl⟩
      have HMID := Lib.hid hmid
      have b1 : lo < mid := by have := HP.out; omega
      have b2 : mid < hi := by have := HP.out; omega
      clear hmid
      have d1 : decide ((1 : Int) < (hi : Int) - (lo : Int)) = true := by have := HP.out; simp; omega
      have d2 : ((lo : Int) + (hi : Int)) / 2 = (mid : Int) := by have := HMID.out; omega
      have C := Lib.hid (HF.out mid (by omega))
      cases hf : f mid
      · have HB := Lib.hid (show bis f 37 0 137438953472 = bis f k lo mid by rw [hb.out, bis, HMID.out, hf]; rfl)
        rw [hf] at C
        clear hf hb
        go_wp2_with fail
        refine C.out.mono ?_
        rintro e w' ⟨rfl, rfl⟩
        go_wp2
        go_round
        case rel => exact ⟨k, lo, mid, rfl, rfl, b1, by omega, Lib.hid (by have := HP.out; have := HMID.out; rw [HM.out]; omega), HB⟩
        case measure => simp [intOf]; omega
      · have HB := Lib.hid (show bis f 37 0 137438953472 = bis f k mid hi by rw [hb.out, bis, HMID.out, hf]; rfl)
        rw [hf] at C
        clear hf hb
        go_wp2_with fail
        refine C.out.mono ?_
        rintro e w' ⟨rfl, rfl⟩
        go_wp2
        go_round
        case rel => exact ⟨k, mid, hi, rfl, rfl, b2, hhi, Lib.hid (by have := HP.out; have := HMID.out; rw [HM.out]; omega), HB⟩
        case measure => simp [intOf]; omega
end Go.Proofs.Ytmaehbebpldpcaa
