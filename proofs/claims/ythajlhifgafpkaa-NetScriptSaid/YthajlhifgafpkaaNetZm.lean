/-
  Nets: NetArrives, walked.
-/
import Derived.Test.YthajlhifgafpkaaNetZc
import Derived.Test.YthajlhifgafpkaaNetZd
import Derived.Test.YthajlhifgafpkaaNetZh
import Derived.Test.YthajlhifgafpkaaNetZl
import Derived.Deep.DeepCutAuto
import Derived.Deep.CutBlock
namespace Go.Proofs.Ythajlhifgafpkaa
open Go.RowKit Go.Shelf
section
variable {W W' : World} {base g mb n c b : Nat} {A : Option Addr} {vs : List PkV} {s : NS}
/-- A map that is no net's is written. -/
theorem NetIs.mapW (h : NetIs W base g mb A n c vs s) {es : Array MapEntry} {ck : Nat} (hb : W.heap[b]? = some (.map es ck)) (hne : b ≠ mb) (hk : ∀ j, j ≠ b → W'.heap[j]? = W.heap[j]?) : NetIs W' base g mb A n c vs s :=
  h.aside b hk (fun e => by subst e; rw [h.hg] at hb; cases hb) (Ne.symm hne) (fun e => by obtain ⟨cur, hc⟩ := h.hf.isCells e; rw [hb] at hc; cases hc) (fun v hv j hj e => (h.hf.bytes v hv).1.notMap hb (e ▸ hj))
theorem FRow.mapW {n : Nat} {v : Value} {fl : List Pk} (h : FRow W base v n fl) {es : Array MapEntry} {ck : Nat} (hb : W.heap[b]? = some (.map es ck)) (hk : ∀ j, j ≠ b → W'.heap[j]? = W.heap[j]?) : FRow W' base v n fl :=
  h.keep fun j hj => hk j (fun e => by
    obtain ⟨xs, h1, _⟩ := h
    rcases h1.2 with ⟨hn, _⟩ | ⟨g, cap, cur, ev, hg, hh, rest⟩
    · rw [hn] at hj; simp [Value.ownBlock] at hj
    · rw [ev] at hj
      simp [Value.ownBlock] at hj
      rw [hj, e, hb] at hh
      cases hh)
theorem grown_other {b : Nat} (hg : W.grownBy W' (some b)) (hz : W'.heap.size = W.heap.size) : ∀ j, j ≠ b → W'.heap[j]? = W.heap[j]? := fun j hj => by
  rcases Nat.lt_or_ge j W.heap.size with h | h
  · exact hg.block j h (fun e => hj (Option.some.inj e))
  · rw [Array.getElem?_eq_none h, Array.getElem?_eq_none (by omega)]
theorem below_grownM {B : Nat} {a w w' : World} (h : Below B a w) (hg : w.grownBy w' (some b)) (hB : B ≤ w.heap.size) (hb : B ≤ b) : Below B a w' := h.grown hg hB fun j hj => by injection hj with hj; omega
end
theorem wfn_u64 (z : Int) (h : (Lit.int .u64 z).wf = true) : 0 ≤ z := by
  exact (Go.bounds_u64 h).1
theorem small_len {xs : List ActV} {k : Nat} {x : ActV} (h : smallL xs = true) (hx : xs[k]? = some x) : x.bl ≤ 2000 := by
  simp only [smallL, Bool.and_eq_true, decide_eq_true_eq] at h
  have hm : x ∈ xs := List.mem_of_getElem? hx
  have : x.bl ≤ (xs.map (·.bl)).sum := by
    clear h hx
    induction xs with
    | nil => cases hm
    | cons y l ih =>
      simp only [List.map_cons, List.sum_cons]
      rcases List.mem_cons.1 hm with rfl | hm
      · omega
      · have := ih hm; omega
  omega
theorem okDev_I {a b : Int} (h : okDev a b = true) : I64 a ∧ I64 b := by
  simp only [okDev, decide_eq_true_eq] at h
  have hw : ∀ x : Int, 1 ≤ x → x ≤ 16 → I64 x := fun x h1 h2 => by
    obtain ⟨n, rfl⟩ := Int.eq_ofNat_of_zero_le (show 0 ≤ x by omega)
    have hn : n < 17 := by omega
    clear h h1 h2
    revert hn
    revert n
    decide
  exact ⟨hw a h.1 h.2.1, hw b h.2.2.1 h.2.2.2.1⟩
theorem num64 {s : NS} {N : Nat} (hg : s.good) (hs : s.small N) (hN : N < 1000000) {p : Pk} (hp : p ∈ s.fl) : p.num < 1000001 := by
  have := (hg.rng p hp).2
  have := hs.last
  omega
set_option maxRecDepth 100000 in
set_option maxHeartbeats 16000000 in
theorem arrives_v (A0 : Option Addr) (len0 cap0 : Nat) (xs : List ActV) (w : World) (h : AReads w w.heap.size A0 len0 xs) (hn : len0 ≤ 9223372036854775807) :
    Calls Try.prog 4 #[.slice A0 len0 cap0] w fun e w' => e = .returned (.bool true) ∧ Below w.heap.size w w' := by
  have HX := Lib.hid h
  have HXL := Lib.hid h.len
  have HIA := Lib.hid (show (Try.prog.info? 43).map (·.size) = some 5 by kernel_rfl)
  have HIN := Lib.hid (show (Try.prog.info? 47).map (·.size) = some 7 by kernel_rfl)
  clear h
  go_enter Try.func4, Try.ntmps4
  go_wp2_with fail
  refine (lives_v w).mono ?_
  rintro e w1 ⟨rfl, b1⟩
  have B1 := Lib.hid b1
  have hz1 := b1.size
  clear b1
  go_wp2_with fail
  refine (small_v A0 len0 cap0 w.heap.size xs w1 (HX.out.below B1.out) hn hz1).mono ?_
  rintro e w2 ⟨rfl, b2⟩
  have B2 := Lib.hid (B1.out.trans (b2.mono hz1))
  have hz2 := B2.out.size
  clear b2
  cases hsm : smallL xs
  · clear hsm
    go_wp2_with fail
    go_ret
    exact ⟨rfl, B2.out⟩
  have HSM := Lib.hid hsm
  have hl200 : len0 ≤ 200 := by
    have h1 := HXL.out
    simp [smallL] at hsm
    omega
  clear hsm
  go_wp2_with fail
  refine (new_v w2).mono ?_
  rintro e w3 ⟨g, mb, rfl, h3, b3⟩
  have hb3 := b3.size
  have M1 := Lib.hid (show SMap ((w3.alloc (.map #[] 0)).alloc (.map #[] 0)) w3.heap.size [] from (MapIs.made w3).keep (Below.heap_alloc _ _ _ (by simp)))
  have M2 := Lib.hid (show GMap ((w3.alloc (.map #[] 0)).alloc (.map #[] 0)) (w3.heap.size + 1) [] from by have := MapIs.made (P := Try.prog) (k := 28) (ek := ekU) (ev := evB) (w3.alloc (.map #[] 0)); simpa using this)
  have BM := ((Below.refl w3.heap.size w3).alloc (Nat.le_refl _) (.map #[] 0)).alloc (by simp) (.map #[] 0)
  have H3 := Lib.hid (h3.below BM)
  have B3 := Lib.hid ((B2.out.trans (b3.mono hz2)).trans (BM.mono (by omega)))
  have AR := Lib.hid (show ArrIs ((w3.alloc (.map #[] 0)).alloc (.map #[] 0)) w2.heap.size mb w3.heap.size (w3.heap.size + 1) [] [] from ⟨M1.out, M2.out, fun x hx => (by cases hx), by omega, by have := h3.mlt; omega, by have := h3.mlt; omega, by omega, by omega⟩)
  have hmk1 := run_makeMap (P := Try.prog) 40 w3
  have hmk2 := run_makeMap (P := Try.prog) 41 (w3.alloc (.map #[] 0))
  have hzz : (w3.alloc (.map #[] 0)).heap.size = w3.heap.size + 1 := by simp
  rw [hzz] at hmk2
  clear h3 b3 BM hzz M1 M2
  go_wp2_with fail
  clear hmk1 hmk2
  generalize ((w3.alloc (.map #[] 0)).alloc (.map #[] 0)) = w4 at *
  obtain ⟨mg, hmg⟩ : ∃ x, w3.heap.size + 1 = x := ⟨_, rfl⟩
  obtain ⟨ms, hms⟩ : ∃ x, w3.heap.size = x := ⟨_, rfl⟩
  rw [hmg] at AR ⊢
  rw [hms] at AR ⊢
  clear hmg hms hb3
  go_loopw [6] (fun i wr => ∃ (k n c : Nat) (A : Option Addr) (vs : List PkV) (s : NS) (S : List (Nat × PkV)) (G : List (Nat × Bool)), k ≤ len0 ∧ i = .int .i64 (k : Int) ∧ NetIs wr w2.heap.size g mb A n c vs s ∧ s.good ∧ s.small k ∧ ArrIs wr w2.heap.size mb ms mg S G ∧ GInv G s ∧ SInv PkV.pk S s ∧ Below w.heap.size w wr) (fun i _ => len0 - (intOf i).toNat)
  case atStart => exact ⟨0, 0, 0, none, [], NS.new, [], [], Nat.zero_le _, rfl, H3.out, NS.good.new, NS.small.new, AR.out, GInv.new, SInv.new _, B3.out⟩
  case round =>
    obtain ⟨k, n, c, A, vs, s, S, G, hk, rfl, h4, hg, hs, ar4, gi, si, b4⟩ := hrel
    have H4 := Lib.hid h4
    have B4 := Lib.hid b4
    have HG := Lib.hid hg
    have HS := Lib.hid hs
    have AR4 := Lib.hid ar4
    have GI := Lib.hid gi
    have SI := Lib.hid si
    have hn4 : n ≤ 4096 := by rw [← h4.len]; exact hs.fl
    have hz4 := b4.size
    have HFL := Lib.hid h4.len
    clear h4 b4 hg hs ar4 gi si H3 B3 AR
    by_cases hlt : k < len0
    · obtain ⟨ad, ⟨xk, xa, xb, xn, xba, xbl, xbc, xbs⟩, rfl, hx, hin, hc⟩ := HX.out.at_ hlt
      have HXK := Lib.hid hx
      have HINX := Lib.hid hin
      have HC4 := Lib.hid (hc wr B4.out)
      have k0 : (0 : Int) ≤ (k : Int) := by omega
      obtain ⟨xm, hxm⟩ := Int.eq_ofNat_of_zero_le (wfn_u64 xn HINX.out.n)
      try dsimp only at hxm
      subst hxm
      clear hx hin hc
      go_wp2_with (first
        | (refine wpList_load_slot rfl 43 (.tmp 35) rfl (ad.add (k * 5)) rfl [.int .i64 xk, .int .i64 xa, .int .i64 xb, .int .u64 (xm : Int), .slice xba xbl xbc] _ HC4.out Try.underlying43 rfl HIA.out ?_)
        | fail)
      have XA5 := Lib.hid (heap_alloc_new wr (.cells #[.int .i64 xk, .int .i64 xa, .int .i64 xb, .int .u64 (xm : Int), .slice xba xbl xbc] 43))
      have BA5 := (Below.refl wr.heap.size wr).alloc (Nat.le_refl _) (.cells #[.int .i64 xk, .int .i64 xa, .int .i64 xb, .int .u64 (xm : Int), .slice xba xbl xbc] 43)
      have hz5 : (wr.alloc (.cells #[.int .i64 xk, .int .i64 xa, .int .i64 xb, .int .u64 (xm : Int), .slice xba xbl xbc] 43)).heap.size = wr.heap.size + 1 := by simp
      have H5 := Lib.hid (H4.out.below BA5)
      have AR5 := Lib.hid (AR4.out.below BA5)
      have B5 := Lib.hid (B4.out.trans (BA5.mono hz4))
      clear H4 AR4 B4 BA5 HC4
      generalize wr.alloc (.cells #[.int .i64 xk, .int .i64 xa, .int .i64 xb, .int .u64 (xm : Int), .slice xba xbl xbc] 43) = w5 at *
      obtain ⟨ga, hga⟩ : ∃ ga, wr.heap.size = ga := ⟨_, rfl⟩
      rw [hga] at XA5 hz5 hz4 ⊢
      clear hga
      refine (flight_is w5 H5.out hn4).mono ?_
      rintro e w6 ⟨A6, c6, rfl, hf6, b6⟩
      have F6 := Lib.hid hf6
      have H6 := Lib.hid (H5.out.below b6)
      have AR6 := Lib.hid (AR5.out.below b6)
      have B6 := Lib.hid (B5.out.trans (b6.mono (by omega)))
      have hz6 := b6.size
      have XA6 := Lib.hid ((b6.block ga (by omega)).trans XA5.out)
      have HLT5 := Lib.hid (And.intro H5.out.lt (And.intro H5.out.mlt (fun j (e : (Value.slice A n c).ownBlock = some j) => (H5.out.hf.base_le j e).2)))
      clear hf6 b6 H5 AR5 B5 XA5
      go_wp2_with (first
        | (refine wpList_load_row rfl 43 (.tmp 7) rfl ga rfl 43 #[.int .i64 xk, .int .i64 xa, .int .i64 xb, .int .u64 (xm : Int), .slice xba xbl xbc] (0, 0) _ XA6.out Try.underlying43 rfl HIA.out ?_)
        | fail)
      have HIN6 := Lib.hid (HINX.out.below B6.out)
      refine (call_v xk xa xb xm xba xbl xbc w.heap.size k xbs w6 H6.out HIN6.out.a HIN6.out.b HIN6.out.r B6.out.size (by have := small_len HSM.out HXK.out; dsimp only at this; omega) HS.out (by omega)).mono ?_
      rintro e w7 ⟨A7, m7, c7, v7, va, vl, vc, rfl, bo7, h7, b7, n7⟩
      have F7 := Lib.hid (F6.out.keep (W' := w7) (fun j hj => by
        obtain ⟨ys, hy, _⟩ := F6.out
        have hl := hy.lt j hj
        exact n7.blk j hl.2 (fun e => by have := HLT5.out.1; omega) (fun e => by have := HLT5.out.2.1; omega) (fun e => by have := HLT5.out.2.2 j e; omega)))
      have XA7 := Lib.hid ((n7.blk ga (by omega) (fun e => by have := H6.out.hg; rw [← e, XA6.out] at this; simp at this) (fun e => by obtain ⟨es, ck, hh⟩ := H6.out.isMap; rw [← e, XA6.out] at hh; cases hh) (fun e => by obtain ⟨cur, hh⟩ := H6.out.hf.isCells e; rw [XA6.out] at hh; simp at hh)).trans XA6.out)
      have AR7 := Lib.hid (AR6.out.net H6.out n7)
      have H7 := Lib.hid h7
      have BO7 := Lib.hid bo7.1
      have B7 := Lib.hid (B6.out.trans (b7.mono hz2))
      have hz7 := n7.size
      clear h7 b7 n7 bo7 H6 AR6 B6 F6 XA6 HLT5
      obtain ⟨an, han⟩ : ∃ an, s.call xk xa xb xm xbs = an := ⟨_, rfl⟩
      have HAN := Lib.hid han
      rw [han] at H7 BO7 ⊢
      clear han
      have BA8 := (Below.refl w7.heap.size w7).alloc (Nat.le_refl _) (.cells #[.int .u64 (an.1.num : Int), .int .u64 (an.1.pk.num : Int), .int .i64 an.1.pk.frm, .int .i64 an.1.pk.too, .int .u64 (an.1.pk.run : Int), .slice va vl vc, .int .i64 (an.1.err : Int)] 47)
      have X8 := Lib.hid (heap_alloc_new w7 (.cells #[.int .u64 (an.1.num : Int), .int .u64 (an.1.pk.num : Int), .int .i64 an.1.pk.frm, .int .i64 an.1.pk.too, .int .u64 (an.1.pk.run : Int), .slice va vl vc, .int .i64 (an.1.err : Int)] 47))
      have XA8 := Lib.hid ((BA8.block ga (by omega)).trans XA7.out)
      have H8 := Lib.hid (H7.out.below BA8)
      have AR8 := Lib.hid (AR7.out.below BA8)
      have BO8 := Lib.hid (BO7.out.below BA8)
      have F8 := Lib.hid (F7.out.below BA8)
      have B8 := Lib.hid (B7.out.trans (BA8.mono (by omega)))
      have hz8 : (w7.alloc (.cells #[.int .u64 (an.1.num : Int), .int .u64 (an.1.pk.num : Int), .int .i64 an.1.pk.frm, .int .i64 an.1.pk.too, .int .u64 (an.1.pk.run : Int), .slice va vl vc, .int .i64 (an.1.err : Int)] 47)).heap.size = w7.heap.size + 1 := by simp
      clear BA8 XA7 H7 AR7 BO7 F7 B7
      have hmk := run_makeMap (P := Try.prog) 41 (w7.alloc (.cells #[.int .u64 (an.1.num : Int), .int .u64 (an.1.pk.num : Int), .int .i64 an.1.pk.frm, .int .i64 an.1.pk.too, .int .u64 (an.1.pk.run : Int), .slice va vl vc, .int .i64 (an.1.err : Int)] 47))
      go_wp2_with fail
      clear hmk
      generalize w7.alloc (.cells #[.int .u64 (an.1.num : Int), .int .u64 (an.1.pk.num : Int), .int .i64 an.1.pk.frm, .int .i64 an.1.pk.too, .int .u64 (an.1.pk.run : Int), .slice va vl vc, .int .i64 (an.1.err : Int)] 47) = w8 at *
      obtain ⟨q8, hq8⟩ : ∃ q8, w7.heap.size = q8 := ⟨_, rfl⟩
      rw [hq8] at X8 hz8 hz7 ⊢
      clear hq8
      have BA9 := (Below.refl w8.heap.size w8).alloc (Nat.le_refl _) (.map #[] 0)
      have X9 := Lib.hid ((BA9.block q8 (by omega)).trans X8.out)
      have XA9 := Lib.hid ((BA9.block ga (by omega)).trans XA8.out)
      have H9 := Lib.hid (H8.out.below BA9)
      have AR9 := Lib.hid (AR8.out.below BA9)
      have BO9 := Lib.hid (BO8.out.below BA9)
      have F9 := Lib.hid (F8.out.below BA9)
      have MM9 := Lib.hid (show GMap (w8.alloc (.map #[] 0)) w8.heap.size [] from MapIs.made w8)
      have B9 := Lib.hid (B8.out.trans (BA9.mono (by omega)))
      have hz9 : (w8.alloc (.map #[] 0)).heap.size = w8.heap.size + 1 := by simp
      have HMM := Lib.hid (show mb < w8.heap.size ∧ ms < w8.heap.size ∧ mg < w8.heap.size from ⟨H8.out.mlt, AR8.out.hs.lt, AR8.out.hg.lt⟩)
      clear BA9 X8 XA8 H8 AR8 BO8 F8 B8
      generalize w8.alloc (.map #[] 0) = w9 at *
      rw [hz8] at MM9 hz9 HMM
      obtain ⟨mm, hmm⟩ : ∃ mm, q8 + 1 = mm := ⟨_, rfl⟩
      have hqm : q8 < mm := by omega
      rw [hmm] at MM9 hz9 HMM ⊢
      clear hmm hz8
      have G8 := Lib.hid (show an.2.good by have := HG.out.call xk xa xb xm xbs; rw [HAN.out] at this; exact this)
      have S8 := Lib.hid (show an.2.small (k + 1) by have := HS.out.call xk xa xb xm xbs; rw [HAN.out] at this; exact this)
      have hm7 : m7 ≤ 4096 := by rw [← H9.out.len]; exact S8.out.fl
      refine (flight_is w9 H9.out hm7).mono ?_
      rintro e wa ⟨Aa, ca, rfl, hfa, ba⟩
      have E1 := Lib.hid hfa
      have Ha := Lib.hid (H9.out.below ba)
      have ARa := Lib.hid (AR9.out.below ba)
      have BOa := Lib.hid (BO9.out.below ba)
      have Fa := Lib.hid (F9.out.below ba)
      have MMa := Lib.hid (MM9.out.keep (ba.block mm (by omega)))
      have Xa := Lib.hid ((ba.block q8 (by omega)).trans X9.out)
      have XAa := Lib.hid ((ba.block ga (by omega)).trans XA9.out)
      have Ba := Lib.hid (B9.out.trans (ba.mono (by omega)))
      have hza := ba.size
      clear hfa ba H9 AR9 BO9 F9 MM9 X9 XA9 B9
      go_wp2_with fail
      have HS8 := Lib.hid (show ∀ p ∈ an.2.fl, p.num < 18446744073709551616 from fun p hp => by have := num64 G8.out S8.out (by omega) hp; omega)
      have HS0 := Lib.hid (show ∀ p ∈ s.fl, p.num < 18446744073709551616 from fun p hp => by have := num64 HG.out HS.out (by omega) hp; omega)
      have HLA := Lib.hid E1.out.len
      go_loopw [12] (fun i wr => ∃ (j : Nat) (L : List (Nat × Bool)), j ≤ m7 ∧ i = .int .i64 (j : Int) ∧ GMap wr mm L ∧ (∀ x, aget x L = if x ∈ numsP (an.2.fl.take j) then some true else none) ∧ (∀ b, b ≠ mm → wr.heap[b]? = wa.heap[b]?) ∧ wr.heap.size = wa.heap.size ∧ Below w.heap.size w wr) (fun i _ => m7 - (intOf i).toNat)
      case atStart => exact ⟨0, [], Nat.zero_le _, rfl, MMa.out, fun x => by simp [aget, numsP], fun _ _ => rfl, rfl, Ba.out⟩
      case round =>
        obtain ⟨j, L, hj, rfl, hm, hL, hoth, hsz, hbb⟩ := hrel
        have HM := Lib.hid hm
        have HL := Lib.hid hL
        have HOT := Lib.hid hoth
        have BB := Lib.hid hbb
        clear hm hL hoth hbb
        by_cases hlt2 : j < m7
        · obtain ⟨gf, cf, p, hv5, hbf, hgf, hp, hcell⟩ := E1.out.at_ hlt2
          have hv6 := hv5
          injection hv6 with hv6 hv7 hv8
          subst hv6
          obtain ⟨p0, _⟩ := hcell wr (HOT.out gf (by omega))
          have hpl := HS8.out p (List.mem_of_getElem? hp)
          obtain ⟨wn, hst, hm', hg', hz'⟩ := GMap.store_ HM.out p.num true hpl
          have HP := Lib.hid hp
          have HM' := Lib.hid hm'
          have HG' := Lib.hid (grown_other hg' hz')
          have HBn := Lib.hid (below_grownM BB.out hg' BB.out.size (by omega))
          have d0 : decide (j < m7) = true := by simpa using hlt2
          have j0 : (0 : Int) ≤ (j : Int) := by omega
          have hzn : wn.heap.size = wa.heap.size := by omega
          clear hp hcell hv5 hm' hg' hz' hv7 hv8
          go_wp2_with fail
          go_roundw
          case rel => exact ⟨j + 1, _, hlt2, by go_num, HM'.out, fun x => by
            rw [aget_aput, HL.out, List.take_add_one, HP.out]
            by_cases h1 : p.num = x
            · subst h1
              rw [if_pos rfl, if_pos (by simp [numsP])]
            · rw [if_neg h1]
              by_cases h2 : x ∈ numsP (an.2.fl.take j)
              · rw [if_pos h2, if_pos (by simp only [numsP, List.map_append, List.mem_append] at h2 ⊢; exact .inl h2)]
              · rw [if_neg h2, if_neg (fun h3 => by
                  simp only [numsP, List.map_append, List.mem_append] at h2 h3
                  rcases h3 with h3 | h3
                  · exact h2 h3
                  · simp at h3; exact h1 h3.symm)], fun b hb => (HG'.out b hb).trans (HOT.out b hb), hzn, HBn.out⟩
          case measure => simp [intOf]; omega
        · obtain rfl : m7 = j := by omega
          have HLF := Lib.hid (show ∀ x, aget x L = if x ∈ numsP an.2.fl then some true else none from fun x => by
            have := HL.out x
            rwa [List.take_of_length_le (by rw [HLA.out]; exact Nat.le_refl _)] at this)
          obtain ⟨es, ck, hmap, hes⟩ := MMa.out.isMap
          have hmb : mm ≠ mb := by have := HMM.out.1; omega
          have hms : mm ≠ ms := by have := HMM.out.2.1; omega
          have hmg2 : mm ≠ mg := by have := HMM.out.2.2; omega
          have Hb := Lib.hid (Ha.out.mapW hmap hmb HOT.out)
          have ARb := Lib.hid (show ArrIs wr w2.heap.size mb ms mg S G from ⟨ARa.out.hs.keep (HOT.out _ (Ne.symm hms)), ARa.out.hg.keep (HOT.out _ (Ne.symm hmg2)), fun x hx => (ARa.out.by_ x hx).keep fun q hq => HOT.out q (fun e => (ARa.out.by_ x hx).notMap hmap (e ▸ hq)), ARa.out.ne1, ARa.out.ne2, ARa.out.ne3, ARa.out.b1, ARa.out.b2⟩)
          have BOb := Lib.hid (BOa.out.keep fun q hq => HOT.out q (fun e => BOa.out.notMap hmap (e ▸ hq)))
          have Fb := Lib.hid (Fa.out.mapW hmap HOT.out)
          have E1b := Lib.hid (E1.out.mapW hmap HOT.out)
          have Xb := Lib.hid ((HOT.out q8 (by omega)).trans Xa.out)
          have XAb := Lib.hid ((HOT.out ga (by omega)).trans XAa.out)
          clear hes hmap es ck Ha ARa BOa Fa E1 Xa XAa MMa HOT HL
          have HFB := Lib.hid Fb.out.len
          go_wp2_with fail
          generalize wr = wb at *
          go_loopw [13] (fun i wr => ∃ (j : Nat), j ≤ n ∧ i = .int .i64 (j : Int) ∧ GMap wr mg ((s.fl.take j).foldl (goneS (numsP an.2.fl)) G) ∧ (∀ b, b ≠ mg → wr.heap[b]? = wb.heap[b]?) ∧ wr.heap.size = wb.heap.size ∧ Below w.heap.size w wr) (fun i _ => n - (intOf i).toNat)
          case atStart => exact ⟨0, Nat.zero_le _, rfl, ARb.out.hg, fun _ _ => rfl, rfl, BB.out⟩
          case round =>
            obtain ⟨j, hj, rfl, hm, hoth, hszj, hbb⟩ := hrel
            have HM2 := Lib.hid hm
            have HOT2 := Lib.hid hoth
            have BB2 := Lib.hid hbb
            clear hm hoth hbb
            have hmgw : w.heap.size ≤ mg := by have := ARb.out.b2; omega
            have hmgn : mm ≠ mg := by have := HMM.out.2.2; omega
            by_cases hlt3 : j < n
            · obtain ⟨gf, cf, p, hv5, hbf, hgf, hp, hcell⟩ := Fb.out.at_ hlt3
              have hv6 := hv5
              injection hv6 with hv6 hv7 hv8
              subst hv6
              obtain ⟨es, ck, hmap, hes⟩ := ARb.out.hg.isMap
              have hgm : gf ≠ mg := fun e => by
                have := hcell wb rfl
                have h2 := this.1
                rw [e] at h2
                unfold World.cell? at h2
                simp [hmap] at h2
              obtain ⟨p0, _⟩ := hcell wr (HOT2.out gf hgm)
              have hpl := HS0.out p (List.mem_of_getElem? hp)
              have hlk := GMap.look_ (HM.out.keep (HOT2.out mm hmgn)) p.num hpl
              rw [HLF.out p.num] at hlk
              have HP := Lib.hid hp
              have d0 : decide (j < n) = true := by simpa using hlt3
              have j0 : (0 : Int) ≤ (j : Int) := by omega
              clear hp hcell hv5 hv7 hv8 hmap hes es ck hgm
              by_cases hin : p.num ∈ numsP an.2.fl
              · rw [if_pos hin] at hlk
                simp only [Option.getD_some] at hlk
                have HST := Lib.hid (show (s.fl.take (j + 1)).foldl (goneS (numsP an.2.fl)) G = (s.fl.take j).foldl (goneS (numsP an.2.fl)) G by
                  rw [List.take_add_one, HP.out, List.foldl_append]
                  show goneS _ _ p = _
                  rw [goneS, if_pos hin])
                clear hin
                go_wp2_with fail
                go_roundw
                case rel => exact ⟨j + 1, hlt3, by go_num, by rw [HST.out]; exact HM2.out, HOT2.out, hszj, BB2.out⟩
                case measure => simp [intOf]; omega
              · rw [if_neg hin] at hlk
                simp only [Option.getD_none] at hlk
                have HST := Lib.hid (show (s.fl.take (j + 1)).foldl (goneS (numsP an.2.fl)) G = aput p.num true ((s.fl.take j).foldl (goneS (numsP an.2.fl)) G) by
                  rw [List.take_add_one, HP.out, List.foldl_append]
                  show goneS _ _ p = _
                  rw [goneS, if_neg hin])
                obtain ⟨wn, hst, hm', hg', hz'⟩ := GMap.store_ HM2.out p.num true hpl
                have HM' := Lib.hid hm'
                have HG' := Lib.hid (grown_other hg' hz')
                have HBn := Lib.hid (below_grownM BB2.out hg' BB2.out.size hmgw)
                have hzn : wn.heap.size = wb.heap.size := by omega
                clear hin hm' hg' hz'
                go_wp2_with fail
                go_roundw
                case rel => exact ⟨j + 1, hlt3, by go_num, by rw [HST.out]; exact HM'.out, fun b hb => (HG'.out b hb).trans (HOT2.out b hb), hzn, HBn.out⟩
                case measure => simp [intOf]; omega
            · obtain rfl : n = j := by omega
              have HTK := Lib.hid (show s.fl.take n = s.fl from List.take_of_length_le (by rw [HFL.out]; exact Nat.le_refl _))
              rw [HTK.out] at HM2
              obtain ⟨es, ck, hmap, hes⟩ := ARb.out.hg.isMap
              have Hc := Lib.hid (Hb.out.mapW hmap ARb.out.ne3 HOT2.out)
              have ARc := Lib.hid (ARb.out.gone HM2.out (fun q _ hq => HOT2.out q hq))
              have BOc := Lib.hid (BOb.out.keep fun q hq => HOT2.out q (fun e => BOb.out.notMap hmap (e ▸ hq)))
              have hqn : q8 ≠ mg := fun e => by have h2 := Xb.out; rw [e, hmap] at h2; cases h2
              have hgan : ga ≠ mg := fun e => by have h2 := XAb.out; rw [e, hmap] at h2; cases h2
              have Xc := Lib.hid ((HOT2.out q8 hqn).trans Xb.out)
              have XAc := Lib.hid ((HOT2.out ga hgan).trans XAb.out)
              clear hes hmap es ck Hb ARb BOb Fb Xb XAb HOT2 HM2 HM HLF hqn hgan E1b
              generalize wr = wc at *
              have HSTEP := Lib.hid (show ∃ kept new, Step s an.2 kept new by have := call_step s xk xa xb xm xbs; rw [HAN.out] at this; exact this)
              obtain ⟨G', hG'⟩ : ∃ G', s.fl.foldl (goneS (numsP an.2.fl)) G = G' := ⟨_, rfl⟩
              have GI2 := Lib.hid (show GInv G' an.2 by obtain ⟨kept, new, hst⟩ := HSTEP.out; rw [← hG']; exact GI.out.step HG.out hst)
              have GN := Lib.hid (show ∀ p ∈ s.fl, p.num ∉ numsP an.2.fl → aget p.num G' = some true from fun p hp hn => by rw [← hG']; exact GI.out.noted HG.out hp hn)
              rw [hG'] at ARc
              clear hG'
              have e6 : wc.cell? ⟨q8, 6, none⟩ = some (.int .i64 (an.1.err : Int)) := by rw [cell_of_row _ _ 6 _ _ _ Xc.out]; rfl
              by_cases herr : an.1.err = 0
              · have d1 : ((an.1.err : Int) != 0) = false := by rw [herr]; rfl
                have a0 : wc.cell? ⟨ga, 0, none⟩ = some (.int .i64 xk) := by rw [cell_of_row _ _ 0 _ _ _ XAc.out]; rfl
                have a1 : wc.cell? ⟨ga, 1, none⟩ = some (.int .i64 xa) := by rw [cell_of_row _ _ 1 _ _ _ XAc.out]; rfl
                have a2 : wc.cell? ⟨ga, 2, none⟩ = some (.int .i64 xb) := by rw [cell_of_row _ _ 2 _ _ _ XAc.out]; rfl
                have HERR := Lib.hid herr
                clear herr
                go_wp2_with fail
                refine (is_v xa xb wc Hc.out HINX.out.a HINX.out.b).mono ?_
                rintro e wd ⟨rfl, bd⟩
                have Hd := Lib.hid (Hc.out.below bd)
                have ARd := Lib.hid (ARc.out.below bd)
                have BOd := Lib.hid (BOc.out.below bd)
                have Xd := Lib.hid ((bd.block q8 (Array.getElem?_eq_some_iff.1 Xc.out).1).trans Xc.out)
                have XAd := Lib.hid ((bd.block ga (Array.getElem?_eq_some_iff.1 XAc.out).1).trans XAc.out)
                have Bd := Lib.hid (BB2.out.trans (bd.mono BB2.out.size))
                have a0d : wd.cell? ⟨ga, 0, none⟩ = some (.int .i64 xk) := by rw [cell_of_row _ _ 0 _ _ _ XAd.out]; rfl
                clear bd a0 a1 a2 e6 Hc ARc BOc Xc XAc d1
                go_wp2_with fail
                refine (pick_any xk 6 wd (by omega) (by omega)).mono ?_
                rintro e _ ⟨rfl, rfl⟩
                have hq0 := Int.emod_nonneg xk (show ((6 : Nat) : Int) ≠ 0 by omega)
                have hq1 := Int.emod_lt_of_pos xk (show (0 : Int) < ((6 : Nat) : Int) by omega)
                obtain ⟨z, hzq⟩ : ∃ z : Int, xk % ((6 : Nat) : Int) = z := ⟨_, rfl⟩
                have hq6 : z = 0 ∨ z = 1 ∨ z = 2 ∨ z = 3 ∨ z = 4 ∨ z = 5 := by omega
                have HZ := Lib.hid (show xk % 6 = z from hzq)
                rw [hzq]
                clear hq0 hq1 hzq a0d
                rcases hq6 with rfl | rfl | rfl | rfl | rfl | rfl
                · skip
                  have SI2 := Lib.hid (show SInv PkV.pk S an.2 from SI.out.fewer (by have := call_fewer (s := s) (k := xk) (a := xa) (b := xb) (n := xm) (l := xbs) (.inl HZ.out); rw [HAN.out] at this; exact this))
                  go_wp2_with fail
                  go_roundw
                  case rel => exact ⟨k + 1, m7, c7, A7, v7, an.2, S, G', hlt, by go_num, Hd.out, G8.out, S8.out, ARd.out, GI2.out, SI2.out, Bd.out⟩
                  case measure => simp [intOf]; omega
                · skip
                  have SI2 := Lib.hid (show SInv PkV.pk S an.2 from SI.out.fewer (by have := call_fewer (s := s) (k := xk) (a := xa) (b := xb) (n := xm) (l := xbs) (.inr (.inl HZ.out)); rw [HAN.out] at this; exact this))
                  go_wp2_with fail
                  go_roundw
                  case rel => exact ⟨k + 1, m7, c7, A7, v7, an.2, S, G', hlt, by go_num, Hd.out, G8.out, S8.out, ARd.out, GI2.out, SI2.out, Bd.out⟩
                  case measure => simp [intOf]; omega
                · skip
                  have HCE := Lib.hid (show s.call xk xa xb xm xbs = (⟨0, (s.take xm).1.1, (s.take xm).1.2⟩, (s.take xm).2) by unfold NS.call; rw [HZ.out]; rfl)
                  have HE := HAN.out
                  rw [HCE.out] at HE
                  have HT0 : (s.take xm).1.2 = 0 := by have := HERR.out; rw [← HE] at this; exact this
                  obtain ⟨p0, hp0, hpn, hpk, hnn, hlk⟩ := take_found HG.out HT0
                  have HPK := Lib.hid (show an.1.pk = p0 by rw [← HE]; exact hpk)
                  have HNN := Lib.hid (show xm ∉ numsP an.2.fl by rw [← HE]; exact hnn)
                  have HLK := Lib.hid (show an.2.link = s.link by rw [← HE]; exact hlk)
                  have HP0 := Lib.hid hp0
                  have HPN := Lib.hid hpn
                  obtain ⟨v, hv, hvp⟩ := SI.out p0 hp0
                  rw [hpn] at hv
                  have HV := Lib.hid hv
                  have HVP := Lib.hid hvp
                  have hm64 : xm < 18446744073709551616 := by have := HS0.out p0 hp0; omega
                  have hlook := SMap.look2_ ARd.out.hs xm hm64 hv
                  rw [show v.cells.toArray = #[.int .u64 (v.pk.num : Int), .int .i64 v.pk.frm, .int .i64 v.pk.too, .int .u64 (v.pk.run : Int), .slice v.a v.len v.cap] from rfl] at hlook
                  have HBV := Lib.hid (ARd.out.by_ _ (aget_some hv))
                  have a3 : wd.cell? ⟨ga, 3, none⟩ = some (.int .u64 (xm : Int)) := by rw [cell_of_row _ _ 3 _ _ _ XAd.out]; rfl
                  clear HE HT0 hp0 hpn hpk hnn hlk hv hvp
                  go_upto_region 32 with fail
                  have BE := (Below.refl wd.heap.size wd).alloc (Nat.le_refl _) (.cells #[.int .u64 (v.pk.num : Int), .int .i64 v.pk.frm, .int .i64 v.pk.too, .int .u64 (v.pk.run : Int), .slice v.a v.len v.cap] 34)
                  have Be := Lib.hid (Bd.out.trans (BE.mono Bd.out.size))
                  have He := Lib.hid (Hd.out.below BE)
                  have ARe := Lib.hid (ARd.out.below BE)
                  have BOe := Lib.hid (BOd.out.below BE)
                  have HBVe := Lib.hid (HBV.out.below BE)
                  have Xe := Lib.hid ((BE.block q8 (Array.getElem?_eq_some_iff.1 Xd.out).1).trans Xd.out)
                  have XAe := Lib.hid ((BE.block ga (Array.getElem?_eq_some_iff.1 XAd.out).1).trans XAd.out)
                  have Se := Lib.hid (heap_alloc_new wd (.cells #[.int .u64 (v.pk.num : Int), .int .i64 v.pk.frm, .int .i64 v.pk.too, .int .u64 (v.pk.run : Int), .slice v.a v.len v.cap] 34))
                  have hze : (wd.alloc (.cells #[.int .u64 (v.pk.num : Int), .int .i64 v.pk.frm, .int .i64 v.pk.too, .int .u64 (v.pk.run : Int), .slice v.a v.len v.cap] 34)).heap.size = wd.heap.size + 1 := by simp
                  clear BE Bd Hd ARd BOd HBV Xd XAd hlook a3
                  generalize wd.alloc (.cells #[.int .u64 (v.pk.num : Int), .int .i64 v.pk.frm, .int .i64 v.pk.too, .int .u64 (v.pk.run : Int), .slice v.a v.len v.cap] 34) = we at *
                  obtain ⟨g16, hg16⟩ : ∃ x, wd.heap.size = x := ⟨_, rfl⟩
                  rw [hg16] at Se hze ⊢
                  clear hg16
                  have x2 : we.cell? ⟨q8, 2, none⟩ = some (.int .i64 an.1.pk.frm) := by rw [cell_of_row _ _ 2 _ _ _ Xe.out]; rfl
                  have x3 : we.cell? ⟨q8, 3, none⟩ = some (.int .i64 an.1.pk.too) := by rw [cell_of_row _ _ 3 _ _ _ Xe.out]; rfl
                  have HIS := Lib.hid (show an.2.is an.1.pk.frm an.1.pk.too = (true, an.1.pk.run) by
                    have := HG.out.is_ HP0.out
                    rw [HPK.out]
                    unfold NS.is at this ⊢
                    rw [HLK.out]
                    exact this)
                  have HOK := Lib.hid (okDev_I (show okDev an.1.pk.frm an.1.pk.too = true by rw [HPK.out]; exact (HG.out.lk p0 HP0.out).1))
                  go_wp2_with fail
                  refine (is_v an.1.pk.frm an.1.pk.too we He.out HOK.out.1 HOK.out.2).mono ?_
                  rw [HIS.out]
                  rintro e wf ⟨rfl, bf⟩
                  have Bf := Lib.hid (Be.out.trans (bf.mono Be.out.size))
                  have Hf := Lib.hid (He.out.below bf)
                  have ARf := Lib.hid (ARe.out.below bf)
                  have BOf := Lib.hid (BOe.out.below bf)
                  have HBVf := Lib.hid (HBVe.out.below bf)
                  have Xf := Lib.hid ((bf.block q8 (Array.getElem?_eq_some_iff.1 Xe.out).1).trans Xe.out)
                  have XAf := Lib.hid ((bf.block ga (Array.getElem?_eq_some_iff.1 XAe.out).1).trans XAe.out)
                  have Sf := Lib.hid ((bf.block g16 (by omega)).trans Se.out)
                  have hzf := bf.size
                  clear bf Be He ARe BOe HBVe Xe XAe Se x2 x3
                  go_upto_region 33 with fail
                  have s0 : wf.cell? ⟨g16, 0, none⟩ = some (.int .u64 (v.pk.num : Int)) := by rw [cell_of_row _ _ 0 _ _ _ Sf.out]; rfl
                  have s1 : wf.cell? ⟨g16, 1, none⟩ = some (.int .i64 v.pk.frm) := by rw [cell_of_row _ _ 1 _ _ _ Sf.out]; rfl
                  have s2 : wf.cell? ⟨g16, 2, none⟩ = some (.int .i64 v.pk.too) := by rw [cell_of_row _ _ 2 _ _ _ Sf.out]; rfl
                  have s3 : wf.cell? ⟨g16, 3, none⟩ = some (.int .u64 (v.pk.run : Int)) := by rw [cell_of_row _ _ 3 _ _ _ Sf.out]; rfl
                  have s4 : wf.cell? ⟨g16, 4, none⟩ = some (.slice v.a v.len v.cap) := by rw [cell_of_row _ _ 4 _ _ _ Sf.out]; rfl
                  have y1 : (wf.alloc (.cells #[.int .u64 (v.pk.num : Int), .int .i64 v.pk.frm, .int .i64 v.pk.too, .int .u64 (v.pk.run : Int), .slice v.a v.len v.cap] 34)).cell? ⟨q8, 1, none⟩ = some (.int .u64 (an.1.pk.num : Int)) := by rw [World.cell?_alloc_lt _ _ _ (show q8 < wf.heap.size from (Array.getElem?_eq_some_iff.1 Xf.out).1), cell_of_row _ _ 1 _ _ _ Xf.out]; rfl
                  have y2 : (wf.alloc (.cells #[.int .u64 (v.pk.num : Int), .int .i64 v.pk.frm, .int .i64 v.pk.too, .int .u64 (v.pk.run : Int), .slice v.a v.len v.cap] 34)).cell? ⟨q8, 2, none⟩ = some (.int .i64 an.1.pk.frm) := by rw [World.cell?_alloc_lt _ _ _ (show q8 < wf.heap.size from (Array.getElem?_eq_some_iff.1 Xf.out).1), cell_of_row _ _ 2 _ _ _ Xf.out]; rfl
                  have y3 : (wf.alloc (.cells #[.int .u64 (v.pk.num : Int), .int .i64 v.pk.frm, .int .i64 v.pk.too, .int .u64 (v.pk.run : Int), .slice v.a v.len v.cap] 34)).cell? ⟨q8, 3, none⟩ = some (.int .i64 an.1.pk.too) := by rw [World.cell?_alloc_lt _ _ _ (show q8 < wf.heap.size from (Array.getElem?_eq_some_iff.1 Xf.out).1), cell_of_row _ _ 3 _ _ _ Xf.out]; rfl
                  have y4 : (wf.alloc (.cells #[.int .u64 (v.pk.num : Int), .int .i64 v.pk.frm, .int .i64 v.pk.too, .int .u64 (v.pk.run : Int), .slice v.a v.len v.cap] 34)).cell? ⟨q8, 4, none⟩ = some (.int .u64 (an.1.pk.run : Int)) := by rw [World.cell?_alloc_lt _ _ _ (show q8 < wf.heap.size from (Array.getElem?_eq_some_iff.1 Xf.out).1), cell_of_row _ _ 4 _ _ _ Xf.out]; rfl
                  have y5 : (wf.alloc (.cells #[.int .u64 (v.pk.num : Int), .int .i64 v.pk.frm, .int .i64 v.pk.too, .int .u64 (v.pk.run : Int), .slice v.a v.len v.cap] 34)).cell? ⟨q8, 5, none⟩ = some (.slice va vl vc) := by rw [World.cell?_alloc_lt _ _ _ (show q8 < wf.heap.size from (Array.getElem?_eq_some_iff.1 Xf.out).1), cell_of_row _ _ 5 _ _ _ Xf.out]; rfl
                  go_wp2_with fail
                  have P1 := (PReads.one wf v 34 #[.int .u64 (v.pk.num : Int), .int .i64 v.pk.frm, .int .i64 v.pk.too, .int .u64 (v.pk.run : Int), .slice v.a v.len v.cap] rfl HBVf.out.reads)
                  have BG1 := (Below.refl wf.heap.size wf).alloc (Nat.le_refl _) (.cells #[.int .u64 (v.pk.num : Int), .int .i64 v.pk.frm, .int .i64 v.pk.too, .int .u64 (v.pk.run : Int), .slice v.a v.len v.cap] 34)
                  have P2 := PReads.one (wf.alloc (.cells #[.int .u64 (v.pk.num : Int), .int .i64 v.pk.frm, .int .i64 v.pk.too, .int .u64 (v.pk.run : Int), .slice v.a v.len v.cap] 34)) ⟨an.1.pk, va, vl, vc⟩ 34 #[.int .u64 (an.1.pk.num : Int), .int .i64 an.1.pk.frm, .int .i64 an.1.pk.too, .int .u64 (an.1.pk.run : Int), .slice va vl vc] rfl (BOf.out.below BG1).reads
                  have BG2 := BG1.alloc (by simp) (.cells #[.int .u64 (an.1.pk.num : Int), .int .i64 an.1.pk.frm, .int .i64 an.1.pk.too, .int .u64 (an.1.pk.run : Int), .slice va vl vc] 34)
                  have P3 : PReads ((wf.alloc (.cells #[.int .u64 (v.pk.num : Int), .int .i64 v.pk.frm, .int .i64 v.pk.too, .int .u64 (v.pk.run : Int), .slice v.a v.len v.cap] 34)).alloc (.cells #[.int .u64 (an.1.pk.num : Int), .int .i64 an.1.pk.frm, .int .i64 an.1.pk.too, .int .u64 (an.1.pk.run : Int), .slice va vl vc] 34)) ((wf.alloc (.cells #[.int .u64 (v.pk.num : Int), .int .i64 v.pk.frm, .int .i64 v.pk.too, .int .u64 (v.pk.run : Int), .slice v.a v.len v.cap] 34)).alloc (.cells #[.int .u64 (an.1.pk.num : Int), .int .i64 an.1.pk.frm, .int .i64 an.1.pk.too, .int .u64 (an.1.pk.run : Int), .slice va vl vc] 34)).heap.size (some ⟨wf.heap.size, 0, none⟩) 1 [v] := (P1.below ((Below.refl (wf.heap.size + 1) (wf.alloc (.cells #[.int .u64 (v.pk.num : Int), .int .i64 v.pk.frm, .int .i64 v.pk.too, .int .u64 (v.pk.run : Int), .slice v.a v.len v.cap] 34))).alloc (by simp) (.cells #[.int .u64 (an.1.pk.num : Int), .int .i64 an.1.pk.frm, .int .i64 an.1.pk.too, .int .u64 (an.1.pk.run : Int), .slice va vl vc] 34))).more (by simp)
                  have hzp : (wf.alloc (.cells #[.int .u64 (v.pk.num : Int), .int .i64 v.pk.frm, .int .i64 v.pk.too, .int .u64 (v.pk.run : Int), .slice v.a v.len v.cap] 34)).heap.size = wf.heap.size + 1 := by simp
                  have P4 : PReads ((wf.alloc (.cells #[.int .u64 (v.pk.num : Int), .int .i64 v.pk.frm, .int .i64 v.pk.too, .int .u64 (v.pk.run : Int), .slice v.a v.len v.cap] 34)).alloc (.cells #[.int .u64 (an.1.pk.num : Int), .int .i64 an.1.pk.frm, .int .i64 an.1.pk.too, .int .u64 (an.1.pk.run : Int), .slice va vl vc] 34)) ((wf.alloc (.cells #[.int .u64 (v.pk.num : Int), .int .i64 v.pk.frm, .int .i64 v.pk.too, .int .u64 (v.pk.run : Int), .slice v.a v.len v.cap] 34)).alloc (.cells #[.int .u64 (an.1.pk.num : Int), .int .i64 an.1.pk.frm, .int .i64 an.1.pk.too, .int .u64 (an.1.pk.run : Int), .slice va vl vc] 34)).heap.size (some ⟨wf.heap.size + 1, 0, none⟩) 1 [⟨an.1.pk, va, vl, vc⟩] := by rw [hzp] at P2; exact P2.more (by simp)
                  have Bg := Lib.hid (Bf.out.trans (BG2.mono Bf.out.size))
                  have Hg := Lib.hid (Hf.out.below BG2)
                  have ARg := Lib.hid (ARf.out.below BG2)
                  have XAg := Lib.hid ((BG2.block ga (Array.getElem?_eq_some_iff.1 XAf.out).1).trans XAf.out)
                  have Sg := Lib.hid ((BG2.block g16 (Array.getElem?_eq_some_iff.1 Sf.out).1).trans Sf.out)
                  have P3' := Lib.hid P3
                  have P4' := Lib.hid P4
                  clear P1 P2 P3 P4 BG1 BG2 hzp s0 s1 s2 s3 s4 y1 y2 y3 y4 y5 Bf Hf ARf BOf HBVf Xf XAf Sf
                  generalize ((wf.alloc (.cells #[.int .u64 (v.pk.num : Int), .int .i64 v.pk.frm, .int .i64 v.pk.too, .int .u64 (v.pk.run : Int), .slice v.a v.len v.cap] 34)).alloc (.cells #[.int .u64 (an.1.pk.num : Int), .int .i64 an.1.pk.frm, .int .i64 an.1.pk.too, .int .u64 (an.1.pk.run : Int), .slice va vl vc] 34)) = wg at *
                  refine (packs_same _ _ 1 1 1 [v] [⟨an.1.pk, va, vl, vc⟩] wg P3'.out P4'.out (by simp [HVP.out, HPK.out]) (by omega)).mono ?_
                  rintro e wh ⟨rfl, bh⟩
                  have Bh := Lib.hid (Bg.out.trans (bh.mono Bg.out.size))
                  have Hh := Lib.hid (Hg.out.below bh)
                  have ARh := Lib.hid (ARg.out.below bh)
                  have XAh := Lib.hid ((bh.block ga (Array.getElem?_eq_some_iff.1 XAg.out).1).trans XAg.out)
                  have Sh := Lib.hid ((bh.block g16 (Array.getElem?_eq_some_iff.1 Sg.out).1).trans Sg.out)
                  clear bh Bg Hg ARg XAg Sg P3' P4'
                  have s3 : wh.cell? ⟨g16, 3, none⟩ = some (.int .u64 (v.pk.run : Int)) := by rw [cell_of_row _ _ 3 _ _ _ Sh.out]; rfl
                  have a3 : wh.cell? ⟨ga, 3, none⟩ = some (.int .u64 (xm : Int)) := by rw [cell_of_row _ _ 3 _ _ _ XAh.out]; rfl
                  have r1 : ((an.1.pk.run : Int) != (v.pk.run : Int)) = false := by rw [HVP.out, HPK.out]; simp
                  have hgl := GMap.look_ ARh.out.hg xm hm64
                  have hgo := GN.out p0 HP0.out (by rw [HPN.out]; exact HNN.out)
                  rw [HPN.out] at hgo
                  rw [hgo] at hgl
                  simp only [Option.getD_some] at hgl
                  have hdel := fun ty => SMap.drop_ ARh.out.hs xm hm64 ty
                  obtain ⟨wi, hrun, hsm2, hgr2, hz2'⟩ := hdel 0
                  clear hgo hdel
                  have hoth := grown_other hgr2 hz2'
                  obtain ⟨es, ck, hmap, hes⟩ := ARh.out.hs.isMap
                  have Hi := Lib.hid (Hh.out.mapW hmap ARh.out.ne2 hoth)
                  have ARi := Lib.hid (ARh.out.sent hsm2 (fun x hx => .inl (adel_sub.subset hx)) (fun q _ hq => hoth q hq))
                  have SI2 := Lib.hid (show SInv PkV.pk (adel xm S) an.2 from SInv.drop (SI.out.fewer (by have := call_fewer (s := s) (k := xk) (a := xa) (b := xb) (n := xm) (l := xbs) (.inr (.inr (.inl HZ.out))); rw [HAN.out] at this; exact this)) ARh.out.hs.pair HNN.out)
                  have Bi := Lib.hid (below_grownM Bh.out hgr2 Bh.out.size (by have := ARh.out.b1; omega))
                  clear hes hmap es ck hsm2 hgr2 hz2' hoth
                  go_upto_region 35 with fail
                  go_wp2_with fail
                  go_roundw
                  case rel => exact ⟨k + 1, m7, c7, A7, v7, an.2, adel xm S, G', hlt, by go_num, Hi.out, G8.out, S8.out, ARi.out, GI2.out, SI2.out, Bi.out⟩
                  case measure => simp [intOf]; omega
                · skip
                  have SI2 := Lib.hid (show SInv PkV.pk S an.2 from SI.out.fewer (by have := call_fewer (s := s) (k := xk) (a := xa) (b := xb) (n := xm) (l := xbs) (.inr (.inr (.inr HZ.out))); rw [HAN.out] at this; exact this))
                  go_wp2_with fail
                  go_roundw
                  case rel => exact ⟨k + 1, m7, c7, A7, v7, an.2, S, G', hlt, by go_num, Hd.out, G8.out, S8.out, ARd.out, GI2.out, SI2.out, Bd.out⟩
                  case measure => simp [intOf]; omega
                · skip
                  have HCE := Lib.hid (show s.call xk xa xb xm xbs = (⟨(s.twice xm).1.1, zeroPk, (s.twice xm).1.2⟩, (s.twice xm).2) by unfold NS.call; rw [HZ.out]; rfl)
                  have HE := HAN.out
                  rw [HCE.out] at HE
                  have HT0 : (s.twice xm).1.2 = 0 := by have := HERR.out; rw [← HE] at this; exact this
                  obtain ⟨p0, hp0, hpn, hnum, hfl⟩ := twice_found HT0
                  have HNUM := Lib.hid (show an.1.num = s.last + 1 by rw [← HE]; exact hnum)
                  have HFLN := Lib.hid (show an.2.fl = s.fl ++ [⟨s.last + 1, p0.frm, p0.too, p0.run, p0.bytes⟩] by rw [← HE]; exact hfl)
                  have HP0 := Lib.hid hp0
                  obtain ⟨v, hv, hvp⟩ := SI.out p0 hp0
                  rw [hpn] at hv
                  have HVP := Lib.hid hvp
                  have hm64 : xm < 18446744073709551616 := by have := HS0.out p0 hp0; omega
                  have hn64 : an.1.num < 18446744073709551616 := by have := HS.out.last; have := HNUM.out; omega
                  have hlook := SMap.look_ ARd.out.hs xm hm64 hv
                  rw [show v.cells.toArray = #[.int .u64 (v.pk.num : Int), .int .i64 v.pk.frm, .int .i64 v.pk.too, .int .u64 (v.pk.run : Int), .slice v.a v.len v.cap] from rfl] at hlook
                  have HBV := Lib.hid (ARd.out.by_ _ (aget_some hv))
                  have a3 : wd.cell? ⟨ga, 3, none⟩ = some (.int .u64 (xm : Int)) := by rw [cell_of_row _ _ 3 _ _ _ XAd.out]; rfl
                  clear HE HT0 hp0 hpn hnum hfl hv hvp
                  go_upto_region 38 with fail
                  have Xe0 := Lib.hid ((Below.heap_alloc wd (.cells #[.int .u64 (v.pk.num : Int), .int .i64 v.pk.frm, .int .i64 v.pk.too, .int .u64 (v.pk.run : Int), .slice v.a v.len v.cap] 34) q8 (Array.getElem?_eq_some_iff.1 Xd.out).1).trans Xd.out)
                  have Se0 := Lib.hid (heap_alloc_new wd (.cells #[.int .u64 (v.pk.num : Int), .int .i64 v.pk.frm, .int .i64 v.pk.too, .int .u64 (v.pk.run : Int), .slice v.a v.len v.cap] 34))
                  have x0 : (wd.alloc (.cells #[.int .u64 (v.pk.num : Int), .int .i64 v.pk.frm, .int .i64 v.pk.too, .int .u64 (v.pk.run : Int), .slice v.a v.len v.cap] 34)).cell? ⟨q8, 0, none⟩ = some (.int .u64 (an.1.num : Int)) := by rw [cell_of_row _ _ 0 _ _ _ Xe0.out]; rfl
                  have s0 : (wd.alloc (.cells #[.int .u64 (v.pk.num : Int), .int .i64 v.pk.frm, .int .i64 v.pk.too, .int .u64 (v.pk.run : Int), .slice v.a v.len v.cap] 34)).cell? ⟨wd.heap.size, 0, none⟩ = some (.int .u64 (v.pk.num : Int)) := by rw [cell_of_row _ _ 0 _ _ _ Se0.out]; rfl
                  have f0 : (wd.alloc (.cells #[.int .u64 (v.pk.num : Int), .int .i64 v.pk.frm, .int .i64 v.pk.too, .int .u64 (v.pk.run : Int), .slice v.a v.len v.cap] 34)).frozen? ⟨wd.heap.size, 0, none⟩ = false := frozen_of_row _ _ 0 _ _ Se0.out
                  go_upto_region 39 with fail
                  have BE := (Below.refl wd.heap.size wd).alloc (Nat.le_refl _) (.cells #[.int .u64 (an.1.num : Int), .int .i64 v.pk.frm, .int .i64 v.pk.too, .int .u64 (v.pk.run : Int), .slice v.a v.len v.cap] 34)
                  have Be := Lib.hid (Bd.out.trans (BE.mono Bd.out.size))
                  have He := Lib.hid (Hd.out.below BE)
                  have ARe := Lib.hid (ARd.out.below BE)
                  have HBVe := Lib.hid (HBV.out.below BE)
                  have Xe := Lib.hid ((BE.block q8 (Array.getElem?_eq_some_iff.1 Xd.out).1).trans Xd.out)
                  have Se := Lib.hid (heap_alloc_new wd (.cells #[.int .u64 (an.1.num : Int), .int .i64 v.pk.frm, .int .i64 v.pk.too, .int .u64 (v.pk.run : Int), .slice v.a v.len v.cap] 34))
                  clear BE Bd Hd ARd BOd HBV Xd XAd hlook a3 x0 s0 f0 Xe0 Se0
                  generalize wd.alloc (.cells #[.int .u64 (an.1.num : Int), .int .i64 v.pk.frm, .int .i64 v.pk.too, .int .u64 (v.pk.run : Int), .slice v.a v.len v.cap] 34) = we at *
                  obtain ⟨g18, hg18⟩ : ∃ x, wd.heap.size = x := ⟨_, rfl⟩
                  rw [hg18] at Se ⊢
                  clear hg18
                  have x0 : we.cell? ⟨q8, 0, none⟩ = some (.int .u64 (an.1.num : Int)) := by rw [cell_of_row _ _ 0 _ _ _ Xe.out]; rfl
                  have HIP := Lib.hid (show (Try.prog.info? 34).map (·.size) = some 5 by kernel_rfl)
                  obtain ⟨wi, hrun, hsm2, hgr2, hz2'⟩ := SMap.store_ ARe.out.hs an.1.num ⟨⟨an.1.num, v.pk.frm, v.pk.too, v.pk.run, v.pk.bytes⟩, v.a, v.len, v.cap⟩ hn64
                  rw [show (PkV.cells ⟨⟨an.1.num, v.pk.frm, v.pk.too, v.pk.run, v.pk.bytes⟩, v.a, v.len, v.cap⟩).toArray = #[.int .u64 (an.1.num : Int), .int .i64 v.pk.frm, .int .i64 v.pk.too, .int .u64 (v.pk.run : Int), .slice v.a v.len v.cap] from rfl] at hrun
                  have hoth := grown_other hgr2 hz2'
                  obtain ⟨es, ck, hmap, hes⟩ := ARe.out.hs.isMap
                  have Hi := Lib.hid (He.out.mapW hmap ARe.out.ne2 hoth)
                  have ARi := Lib.hid (ARe.out.sent hsm2 (fun x hx => (mem_aput hx).elim (fun e => .inr (by rw [e]; exact HBVe.out)) .inl) (fun q _ hq => hoth q hq))
                  have SI2 := Lib.hid (show SInv PkV.pk (aput an.1.num ⟨⟨an.1.num, v.pk.frm, v.pk.too, v.pk.run, v.pk.bytes⟩, v.a, v.len, v.cap⟩ S) an.2 by
                    have := SInv.put SI.out HG.out HFLN.out rfl (v := ⟨⟨an.1.num, v.pk.frm, v.pk.too, v.pk.run, v.pk.bytes⟩, v.a, v.len, v.cap⟩) (by rw [HVP.out, HNUM.out])
                    rw [show (Pk.mk (s.last + 1) p0.frm p0.too p0.run p0.bytes).num = an.1.num from HNUM.out.symm] at this
                    exact this)
                  have Bi := Lib.hid (below_grownM Be.out hgr2 Be.out.size (by have := ARe.out.b1; omega))
                  clear hes hmap es ck hsm2 hgr2 hz2' hoth
                  go_wp2_with (first
                    | (refine wpList_load_row rfl 34 (.tmp 18) rfl g18 rfl 34 #[.int .u64 (an.1.num : Int), .int .i64 v.pk.frm, .int .i64 v.pk.too, .int .u64 (v.pk.run : Int), .slice v.a v.len v.cap] (0, 0) _ Se.out Try.underlying34 rfl HIP.out ?_)
                    | fail)
                  go_roundw
                  case rel => exact ⟨k + 1, m7, c7, A7, v7, an.2, _, G', hlt, by go_num, Hi.out, G8.out, S8.out, ARi.out, GI2.out, SI2.out, Bi.out⟩
                  case measure => simp [intOf]; omega
                · skip
                  have HCE := Lib.hid (show s.call xk xa xb xm xbs = (⟨(s.send xa xb xbs).1.1, zeroPk, (s.send xa xb xbs).1.2⟩, (s.send xa xb xbs).2) by unfold NS.call; rw [HZ.out]; rfl)
                  have HE := HAN.out
                  rw [HCE.out] at HE
                  have HT0 : (s.send xa xb xbs).1.2 = 0 := by have := HERR.out; rw [← HE] at this; exact this
                  obtain ⟨r, hris, hnum, hfl⟩ := send_found HT0
                  have hise : an.2.is xa xb = (true, r) := by rw [← HE]; exact hris
                  have HNUM := Lib.hid (show an.1.num = s.last + 1 by rw [← HE]; exact hnum)
                  have HFLN := Lib.hid (show an.2.fl = s.fl ++ [⟨s.last + 1, xa, xb, r, xbs⟩] by rw [← HE]; exact hfl)
                  have hn64 : an.1.num < 18446744073709551616 := by have := HS.out.last; have := HNUM.out; omega
                  rw [hise]
                  dsimp only
                  have hxl := small_len HSM.out HXK.out
                  dsimp only at hxl
                  clear HE HT0 hris hnum hfl hise
                  go_upto_region 41 with fail
                  refine wp_region_text [(0, false), (1, false), (2, false), (3, false), (4, false), (5, false), (6, false), (7, false), (8, false), (9, false), (10, false), (11, false), (12, true), (13, false), (14, true)] (fun V => V.cell? ⟨q8, 0, none⟩ = some (.int .u64 (an.1.num : Int)) ∧ V.cell? ⟨ga, 1, none⟩ = some (.int .i64 xa) ∧ V.cell? ⟨ga, 2, none⟩ = some (.int .i64 xb) ∧ V.cell? ⟨ga, 4, none⟩ = some (.slice xba xbl xbc)) (by kernel_rfl) (by kernel_rfl) (by kernel_rfl) (by kernel_rfl) (by kernel_rfl) (fun dd => ?_)
                  simp only [outOf, List.getElem?_cons_zero, List.getElem?_cons_succ, Option.getD_some]
                  have HSV := Lib.hid (show ∀ V : World, V.heap[q8]? = wd.heap[q8]? → V.heap[ga]? = wd.heap[ga]? → V.cell? ⟨q8, 0, none⟩ = some (.int .u64 (an.1.num : Int)) ∧ V.cell? ⟨ga, 1, none⟩ = some (.int .i64 xa) ∧ V.cell? ⟨ga, 2, none⟩ = some (.int .i64 xb) ∧ V.cell? ⟨ga, 4, none⟩ = some (.slice xba xbl xbc) from fun V hq ha => by
                    refine ⟨?_, ?_, ?_, ?_⟩
                    · rw [cell_of_row _ _ 0 _ _ _ (hq.trans Xd.out)]; rfl
                    · rw [cell_of_row _ _ 1 _ _ _ (ha.trans XAd.out)]; rfl
                    · rw [cell_of_row _ _ 2 _ _ _ (ha.trans XAd.out)]; rfl
                    · rw [cell_of_row _ _ 4 _ _ _ (ha.trans XAd.out)]; rfl)
                  have hS := HSV.out wd.drew rfl rfl
                  have hql := (Array.getElem?_eq_some_iff.1 Xd.out).1
                  have hgal := (Array.getElem?_eq_some_iff.1 XAd.out).1
                  iterate 12 ((first | (refine TW.val2 (v := ?_) ?_ ?_ ?_ ?_ ?_; rotate_left; (focus rfl); (focus (intro W hSW; (try dsimp only at hSW); (try (obtain ⟨hS1, hSW⟩ := hSW)); (try (obtain ⟨hS2, hSW⟩ := hSW)); (try (obtain ⟨hS3, hSW⟩ := hSW)); (try (obtain ⟨hS4, hSW⟩ := hSW)); (try (obtain ⟨hS5, hSW⟩ := hSW)); (try (obtain ⟨hS6, hSW⟩ := hSW)); (try (obtain ⟨hS7, hSW⟩ := hSW)); (try (obtain ⟨hS8, hSW⟩ := hSW)); go_simp; (try with_reducible rfl); done)); (focus exact fun _ _ _ h => h); (focus assumption)) | (refine TW.skip (e := false) ?_ ?_ ?_ ?_; (focus rfl); (focus exact fun _ _ _ h => h); (focus assumption))); simp only [Act.put, List.setIfInBounds_toArray, List.set_cons_zero, List.set_cons_succ])
                  refine TW.eff (by rfl) (fun K hK => ?_); go_simp
                  refine (own_any w.heap.size xba xbl xbc xbs wd.drew (HINX.out.below Bd.out.drew).r Bd.out.size (by omega)).mono ?_
                  rintro e we ⟨A9, c9, rfl, ho9, b9⟩
                  have b9' : Below wd.heap.size wd we := ((Below.refl wd.heap.size wd).drew).trans b9
                  have Be := Lib.hid (Bd.out.trans (b9'.mono Bd.out.size))
                  have He := Lib.hid (Hd.out.below b9')
                  have ARe := Lib.hid (ARd.out.below b9')
                  have O9 := Lib.hid (show BOwn we w2.heap.size A9 xbl c9 xbs from ho9.down (show w2.heap.size ≤ wd.drew.heap.size from by have := Hd.out.b1; have := Hd.out.lt; show w2.heap.size ≤ wd.heap.size; omega))
                  have hq9 := b9'.block q8 hql
                  have hg9 := b9'.block ga hgal
                  have hS9 := HSV.out we hq9 hg9
                  clear hS b9 ho9
                  have hS := hS9
                  clear hS9
                  go_wp2_with fail; refine hK.out _ _ hS ?_; clear hK; (try simp only [Act.put, List.setIfInBounds_toArray, List.set_cons_zero, List.set_cons_succ])
                  iterate 1 ((first | (refine TW.val2 (v := ?_) ?_ ?_ ?_ ?_ ?_; rotate_left; (focus rfl); (focus (intro W hSW; (try dsimp only at hSW); (try (obtain ⟨hS1, hSW⟩ := hSW)); (try (obtain ⟨hS2, hSW⟩ := hSW)); (try (obtain ⟨hS3, hSW⟩ := hSW)); (try (obtain ⟨hS4, hSW⟩ := hSW)); (try (obtain ⟨hS5, hSW⟩ := hSW)); (try (obtain ⟨hS6, hSW⟩ := hSW)); (try (obtain ⟨hS7, hSW⟩ := hSW)); (try (obtain ⟨hS8, hSW⟩ := hSW)); go_simp; (try with_reducible rfl); done)); (focus exact fun _ _ _ h => h); (focus assumption)) | (refine TW.skip (e := false) ?_ ?_ ?_ ?_; (focus rfl); (focus exact fun _ _ _ h => h); (focus assumption))); simp only [Act.put, List.setIfInBounds_toArray, List.set_cons_zero, List.set_cons_succ])
                  obtain ⟨wi, hrun, hsm2, hgr2, hz2'⟩ := SMap.store_ ARe.out.hs an.1.num ⟨⟨an.1.num, xa, xb, r, xbs⟩, A9, xbl, c9⟩ hn64
                  rw [show (PkV.cells ⟨⟨an.1.num, xa, xb, r, xbs⟩, A9, xbl, c9⟩).toArray = #[.int .u64 (an.1.num : Int), .int .i64 xa, .int .i64 xb, .int .u64 (r : Int), .slice A9 xbl c9] from rfl] at hrun
                  have hoth := grown_other hgr2 hz2'
                  obtain ⟨es, ck, hmap, hes⟩ := ARe.out.hs.isMap
                  have Hi := Lib.hid (He.out.mapW hmap ARe.out.ne2 hoth)
                  have ARi := Lib.hid (ARe.out.sent hsm2 (fun x hx => (mem_aput hx).elim (fun e => .inr (by rw [e]; exact O9.out)) .inl) (fun q _ hq => hoth q hq))
                  have SI2 := Lib.hid (show SInv PkV.pk (aput an.1.num ⟨⟨an.1.num, xa, xb, r, xbs⟩, A9, xbl, c9⟩ S) an.2 by
                    have := SInv.put SI.out HG.out HFLN.out rfl (v := ⟨⟨an.1.num, xa, xb, r, xbs⟩, A9, xbl, c9⟩) (by rw [HNUM.out])
                    rw [show (Pk.mk (s.last + 1) xa xb r xbs).num = an.1.num from HNUM.out.symm] at this
                    exact this)
                  have Bi := Lib.hid (below_grownM Be.out hgr2 Be.out.size (by have := ARe.out.b1; omega))
                  have hqm : q8 ≠ ms := fun e => by have h2 := hq9.trans Xd.out; rw [e, hmap] at h2; cases h2
                  have hgm : ga ≠ ms := fun e => by have h2 := hg9.trans XAd.out; rw [e, hmap] at h2; cases h2
                  have hSi := HSV.out wi ((hoth q8 hqm).trans hq9) ((hoth ga hgm).trans hg9)
                  clear hes hmap es ck hsm2 hgr2 hz2' hoth hqm hgm
                  refine TW.eff (by rfl) (fun K hK => ?_); go_simp
                  refine hK.out _ _ hSi ?_
                  clear hK
                  (try simp only [Act.put, List.setIfInBounds_toArray, List.set_cons_zero, List.set_cons_succ])
                  refine TW.done ?_
                  clear hSi hS hrun
                  go_wp2_with fail
                  go_roundw
                  case rel => exact ⟨k + 1, m7, c7, A7, v7, an.2, _, G', hlt, by go_num, Hi.out, G8.out, S8.out, ARi.out, GI2.out, SI2.out, Bi.out⟩
                  case measure => simp [intOf]; omega
              · have d1 : ((an.1.err : Int) != 0) = true := by rw [bne_iff_ne]; omega
                have HEQ := Lib.hid (show an.2 = s by have := call_err (s := s) (k := xk) (a := xa) (b := xb) (n := xm) (l := xbs); rw [HAN.out] at this; exact this herr)
                have hmn : m7 = n := by rw [← HLA.out, HEQ.out, HFL.out]
                have SI2 := Lib.hid (show SInv PkV.pk S an.2 by rw [HEQ.out]; exact SI.out)
                have d2 : ((m7 : Int) != (n : Int)) = false := by rw [hmn]; simp
                clear herr hmn
                go_wp2_with fail
                go_roundw
                case rel => exact ⟨k + 1, m7, c7, A7, v7, an.2, S, G', hlt, by go_num, Hc.out, G8.out, S8.out, ARc.out, GI2.out, SI2.out, BB2.out⟩
                case measure => simp [intOf]; omega
    · obtain rfl : k = len0 := by omega
      obtain ⟨es, ck, hmap, hes⟩ := AR4.out.hg.isMap
      have hlen := GI.out.len
      have hla := HS.out.last
      have hsl := HFL.out
      rw [hsl] at hlen
      have hln := run_len_map (P := Try.prog) (w := wr) 41 3 mg es ck (by kernel_rfl) hmap
      obtain ⟨q, hq⟩ : ∃ q, es.size = q := ⟨_, rfl⟩
      rw [hq] at hln hes
      have d1 : ((q : Int) + (n : Int) == (s.last : Int)) = true := by rw [beq_iff_eq]; omega
      have d2 : ((s.last : Int) == (s.last : Int)) = true := by simp
      have hqs : q + n = s.last := by omega
      have HQS := Lib.hid hqs
      clear hmap hes hlen hsl hq
      go_wp2_with fail
      refine (flight_is wr H4.out hn4).mono ?_
      rintro e w5 ⟨A5, c5, rfl, hf5, b5⟩
      have H5 := Lib.hid (H4.out.below b5)
      have B5 := Lib.hid (B4.out.trans (b5.mono hz4))
      clear hf5 b5 hqs
      go_wp2_with fail
      refine (last_v w5 H5.out).mono ?_
      rintro e _ ⟨rfl, rfl⟩
      have hwr : IntKind.u64.wrap (wrap64 ((q : Int) + (n : Int))) = (s.last : Int) := by
        have := HQS.out
        rw [IntWalk.wrap64_in _ ⟨by omega, by omega⟩, IntKind.wrap_u64]
        omega
      go_wp2_with fail
      go_ret
      exact ⟨rfl, B5.out⟩
end Go.Proofs.Ythajlhifgafpkaa
