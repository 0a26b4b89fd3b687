/-
  Winner: Settle.
  Records: the same version (the reference), the same record (the kit), behind; which of many wins.
  Winner: what is settled, in plain Lean.
  Winner: which of many wins.
  A region that draws its order, walked state by state: what has come up so far is written out; states that are reached in several ways are shown once.
  Winner: WinnerNames.
-/
import Derived.Test.YtndekohimfjdeaaDoorJ1
import Derived.Test.YtndekohimfjdeaaDoorJ2
import Derived.Test.YtndekohimfjdeaaDoorJ3
import Derived.Test.YtndekohimfjdeaaDoorJ4
namespace Go.Proofs.YtndekohimfjdeaaDoor
open Go.RowKit Go.Shelf
theorem results_row_tmp {P : Program} {fn : Func} {p q : Tmp} {ty : TypeId} (h : fn.results = #[.cell p ty, .tmp q]) (tmps : Array Value) (w : World) (g : Nat) (t : TypeId) (cs : Array Value) (fr : Nat × Nat) (d : TypeDesc)
    (hp : tmps.getD p undef = .pointer (some ⟨g, 0, none⟩)) (hg : w.heap[g]? = some (.cells cs t fr))
    (hu : P.underlying ty = some d) (hd : (match d with | .struct _ | .array _ _ => true | _ => false) = true) (hi : (P.info? ty).map (·.size) = some cs.size) :
    (results fn tmps).run P w = .ok (.tuple #[.agg cs, tmps.getD q undef]) w := by
  have hp' : tmps[p]?.getD undef = .pointer (some ⟨g, 0, none⟩) := by simpa using hp
  simp [results, h, hp', asAddr, run_loadVar_row w g t ty cs fr d hg hu hd hi]
theorem MReads.lit (w : World) (B : Nat) (vs : List Vec) (C : Array Value) (T : TypeId) (hC : C.toList = vs.map Vec.v) (hB : B ≤ w.heap.size) (h : ∀ v ∈ vs, CReads w B v.A v.n v.l ∧ v.n ≤ 9223372036854775807) :
    MReads (w.alloc (.cells C T)) (w.heap.size + 1) (some ⟨w.heap.size, 0, none⟩) vs.length vs := by
  refine ⟨⟨by simp, fun _ => ⟨_, rfl, Nat.lt_succ_self _, fun j u hu => ?_⟩⟩, fun v hv => ⟨Reads.more (Reads.alloc (h v hv).1 hB _) (by omega), (h v hv).2⟩⟩
  rw [← hC, Array.getElem?_toList] at hu
  rcases j with _ | j
  · rw [add_zero, World.cell?_alloc_at _ _ _ _ rfl]
    exact hu
  · rw [add_pos _ _ (by omega), World.cell?_alloc_at _ _ _ _ rfl]
    simpa using hu
/-- The record of which two the settled one is. -/
def winX (r q : Rcd) : Rcd := if 0 < ordV q.v r.v then q else r
def zeroR : Rcd := ⟨[], [], 0, false, 0, 0, []⟩
/-- The settled version of two. -/
def setR (r q : Rcd) : Rcd × Nat := if twoE r q ≠ 0 then (zeroR, twoE r q) else ({winX r q with v := mergeV [r.v, q.v]}, 0)
theorem zero_reads (w : World) : RReads w w.heap.size zeroR ⟨none, 0, 0, none, 0, 0⟩ := ⟨Reads.none_, Reads.none_, Nat.zero_le _, Nat.zero_le _, fun x hx => by cases hx⟩
theorem len_ofN16 : ∀ (k : Nat) (d : Int) (f : Int → Nat), (ofN f k d).length ≤ k
  | 0, _, _ => by simp [ofN]
  | k + 1, d, f => by
    have := len_ofN16 k (d + 1) f
    rw [ofN, List.length_append]
    split <;> simp <;> omega
theorem okR_v' {r : Rcd} (h : okR r = 0) : okV 0 r.v = true := by
  unfold okR at h
  split at h
  · rename_i h1; exact absurd h h1
  · split at h
    · cases h
    · rename_i h2; simpa using h2
theorem merge_len (vs : List (List (Int × Nat))) : (mergeV vs).length ≤ 16 := by
  unfold mergeV
  split
  · exact len_ofN16 16 1 _
  · exact Nat.zero_le _
theorem own_lo {w : World} {base K n c : Nat} {e : TypeId} {A : Option Addr} {xs : List Value} (h : w.ownsRow base e K (.slice A n c) n xs) : ∀ ad, A = some ad → base ≤ ad.block := by
  rintro ad rfl
  rcases h.2 with ⟨hv, _⟩ | ⟨g, cap, cur, hv, hg, _⟩
  · cases hv
  · injection hv with h1
    injection h1 with h1
    rw [h1]
    exact hg
theorem merge_fit (vs : List (List (Int × Nat))) (h : ∀ v ∈ vs, fitV v) : fitV (mergeV vs) := by
  unfold mergeV
  split
  · exact fit_ofV _ fun e => fit_merge vs e h
  · exact fun x hx => by cases hx
set_option maxRecDepth 100000 in
set_option maxHeartbeats 16000000 in
theorem settle_o (r q : Rcd) (a b : RSh) (B : Nat) (w : World) (he : EnvM w) (hr : RReads w B r a) (hq : RReads w B q b) (hB : B ≤ w.heap.size) :
    Calls Tryd.prog 15 #[.agg #[.string (st r.path), .slice a.A a.n a.c, .int .i64 r.dev, .bool r.gone, .int .i64 r.size, .int .i64 r.len, .slice a.D a.m a.k], .agg #[.string (st q.path), .slice b.A b.n b.c, .int .i64 q.dev, .bool q.gone, .int .i64 q.size, .int .i64 q.len, .slice b.D b.m b.k]] w fun e w' => ∃ x : RSh, e = .returned (.tuple #[.agg #[.string (st (setR r q).1.path), .slice x.A x.n x.c, .int .i64 (setR r q).1.dev, .bool (setR r q).1.gone, .int .i64 (setR r q).1.size, .int .i64 (setR r q).1.len, .slice x.D x.m x.k], .int .i64 ((setR r q).2 : Int)]) ∧ RReads w' w'.heap.size (setR r q).1 x ∧ (∀ ad, x.A = some ad → w.heap.size ≤ ad.block) ∧ (∀ ad, x.D = some ad → w.heap.size ≤ ad.block) ∧ Below w.heap.size w w' := by
  have HI := Lib.hid (show (Tryd.prog.info? 27).map (·.size) = some 7 by kernel_rfl)
  have BA := Lib.hid ((((Below.refl w.heap.size w).alloc (Nat.le_refl _) (.cells #[.string (st r.path), .slice a.A a.n a.c, .int .i64 r.dev, .bool r.gone, .int .i64 r.size, .int .i64 r.len, .slice a.D a.m a.k] 27)).alloc (by simp) (.cells #[.string (st q.path), .slice b.A b.n b.c, .int .i64 q.dev, .bool q.gone, .int .i64 q.size, .int .i64 q.len, .slice b.D b.m b.k] 27)).alloc (by simp; omega) (.cells #[.string ⟨#[]⟩, .slice none 0 0, .int .i64 0, .bool false, .int .i64 0, .int .i64 0, .slice none 0 0] 27))
  have hz2 : ((w.alloc (.cells #[.string (st r.path), .slice a.A a.n a.c, .int .i64 r.dev, .bool r.gone, .int .i64 r.size, .int .i64 r.len, .slice a.D a.m a.k] 27)).alloc (.cells #[.string (st q.path), .slice b.A b.n b.c, .int .i64 q.dev, .bool q.gone, .int .i64 q.size, .int .i64 q.len, .slice b.D b.m b.k] 27)).heap.size = w.heap.size + 2 := by simp
  have X := Lib.hid ((Below.heap_alloc _ (.cells #[.string ⟨#[]⟩, .slice none 0 0, .int .i64 0, .bool false, .int .i64 0, .int .i64 0, .slice none 0 0] 27) w.heap.size (by omega)).trans (heap_alloc2_old w (.cells #[.string (st r.path), .slice a.A a.n a.c, .int .i64 r.dev, .bool r.gone, .int .i64 r.size, .int .i64 r.len, .slice a.D a.m a.k] 27) (.cells #[.string (st q.path), .slice b.A b.n b.c, .int .i64 q.dev, .bool q.gone, .int .i64 q.size, .int .i64 q.len, .slice b.D b.m b.k] 27)))
  have Y := Lib.hid ((Below.heap_alloc _ (.cells #[.string ⟨#[]⟩, .slice none 0 0, .int .i64 0, .bool false, .int .i64 0, .int .i64 0, .slice none 0 0] 27) (w.heap.size + 1) (by omega)).trans (heap_alloc2_new w (.cells #[.string (st r.path), .slice a.A a.n a.c, .int .i64 r.dev, .bool r.gone, .int .i64 r.size, .int .i64 r.len, .slice a.D a.m a.k] 27) (.cells #[.string (st q.path), .slice b.A b.n b.c, .int .i64 q.dev, .bool q.gone, .int .i64 q.size, .int .i64 q.len, .slice b.D b.m b.k] 27)))
  have Z := Lib.hid (show (((w.alloc (.cells #[.string (st r.path), .slice a.A a.n a.c, .int .i64 r.dev, .bool r.gone, .int .i64 r.size, .int .i64 r.len, .slice a.D a.m a.k] 27)).alloc (.cells #[.string (st q.path), .slice b.A b.n b.c, .int .i64 q.dev, .bool q.gone, .int .i64 q.size, .int .i64 q.len, .slice b.D b.m b.k] 27)).alloc (.cells #[.string ⟨#[]⟩, .slice none 0 0, .int .i64 0, .bool false, .int .i64 0, .int .i64 0, .slice none 0 0] 27)).heap[w.heap.size + 2]? = some (.cells #[.string ⟨#[]⟩, .slice none 0 0, .int .i64 0, .bool false, .int .i64 0, .int .i64 0, .slice none 0 0] 27 (0, 0)) from by
    have e := heap_alloc_new ((w.alloc (.cells #[.string (st r.path), .slice a.A a.n a.c, .int .i64 r.dev, .bool r.gone, .int .i64 r.size, .int .i64 r.len, .slice a.D a.m a.k] 27)).alloc (.cells #[.string (st q.path), .slice b.A b.n b.c, .int .i64 q.dev, .bool q.gone, .int .i64 q.size, .int .i64 q.len, .slice b.D b.m b.k] 27)) (.cells #[.string ⟨#[]⟩, .slice none 0 0, .int .i64 0, .bool false, .int .i64 0, .int .i64 0, .slice none 0 0] 27)
    rwa [hz2] at e)
  have HR := Lib.hid hr
  have HQ := Lib.hid hq
  have HE := Lib.hid he
  have hz : w.heap.size + 3 ≤ (((w.alloc (.cells #[.string (st r.path), .slice a.A a.n a.c, .int .i64 r.dev, .bool r.gone, .int .i64 r.size, .int .i64 r.len, .slice a.D a.m a.k] 27)).alloc (.cells #[.string (st q.path), .slice b.A b.n b.c, .int .i64 q.dev, .bool q.gone, .int .i64 q.size, .int .i64 q.len, .slice b.D b.m b.k] 27)).alloc (.cells #[.string ⟨#[]⟩, .slice none 0 0, .int .i64 0, .bool false, .int .i64 0, .int .i64 0, .slice none 0 0] 27)).heap.size := by simp
  clear hr hq he hz2
  obtain ⟨S, hS⟩ : ∃ S, setR r q = S := ⟨_, rfl⟩
  rw [hS]
  unfold setR at hS
  have HS := Lib.hid hS
  clear hS
  go_enter Tryd.func15, Tryd.ntmps15
  go_upto_region 1 with fail
  generalize (((w.alloc (.cells #[.string (st r.path), .slice a.A a.n a.c, .int .i64 r.dev, .bool r.gone, .int .i64 r.size, .int .i64 r.len, .slice a.D a.m a.k] 27)).alloc (.cells #[.string (st q.path), .slice b.A b.n b.c, .int .i64 q.dev, .bool q.gone, .int .i64 q.size, .int .i64 q.len, .slice b.D b.m b.k] 27)).alloc (.cells #[.string ⟨#[]⟩, .slice none 0 0, .int .i64 0, .bool false, .int .i64 0, .int .i64 0, .slice none 0 0] 27)) = w3 at *
  go_wp2_with (first
    | (refine wpList_load_row rfl 27 (.tmp 2) rfl w.heap.size rfl 27 _ (0, 0) _ X.out Tryd.underlying27 rfl HI.out ?_)
    | (refine wpList_load_row rfl 27 (.tmp 3) rfl (w.heap.size + 1) rfl 27 _ (0, 0) _ Y.out Tryd.underlying27 rfl HI.out ?_)
    | fail)
  refine (winner_v r q a b B w3 (HE.out.below BA.out) (HR.out.below (BA.out.mono hB)) (HQ.out.below (BA.out.mono hB)) (by omega)).mono ?_
  rintro e w4 ⟨rfl, b3⟩
  replace X := Lib.hid ((b3.block w.heap.size (by omega)).trans X.out)
  replace Y := Lib.hid ((b3.block (w.heap.size + 1) (by omega)).trans Y.out)
  replace Z := Lib.hid ((b3.block (w.heap.size + 2) (by omega)).trans Z.out)
  replace BA := Lib.hid (BA.out.trans (b3.mono (by omega)))
  replace hz : w.heap.size + 3 ≤ w4.heap.size := by have := b3.size; omega
  clear b3
  by_cases h1 : twoE r q = 0
  case neg =>
    have d1 : ((twoE r q : Int) != 0) = true := by rw [bne_iff_ne]; omega
    have HW := Lib.hid (show winR r q = (0, twoE r q) from if_pos h1)
    obtain rfl : (zeroR, twoE r q) = S := (if_pos h1).symm.trans HS.out
    rw [HW.out]
    clear h1
    have XS := Lib.hid (setRow_heap w4 (w.heap.size + 2) _ #[.string ⟨#[]⟩, .slice none 0 0, .int .i64 0, .bool false, .int .i64 0, .int .i64 0, .slice none 0 0] _ _ Z.out)
    have BS := Lib.hid (below_setRow BA.out (show w.heap.size ≤ w.heap.size + 2 by omega) #[.string ⟨#[]⟩, .slice none 0 0, .int .i64 0, .bool false, .int .i64 0, .int .i64 0, .slice none 0 0])
    go_wp2_with (first
      | (refine wpList_store_row rfl 27 (.tmp 4) (.tmp 18) rfl (w.heap.size + 2) #[.string ⟨#[]⟩, .slice none 0 0, .int .i64 0, .bool false, .int .i64 0, .int .i64 0, .slice none 0 0] rfl rfl 27 _ Z.out HI.out rfl (by simp [Value.oneCell']) ?_)
      | fail)
    exact bodyPost_ret (results_row_tmp Tryd.results15 _ _ (w.heap.size + 2) _ #[.string ⟨#[]⟩, .slice none 0 0, .int .i64 0, .bool false, .int .i64 0, .int .i64 0, .slice none 0 0] _ _ rfl XS.out Tryd.underlying27 rfl HI.out) rfl ⟨⟨none, 0, 0, none, 0, 0⟩, rfl, zero_reads _, (fun _ h => by cases h), (fun _ h => by cases h), BS.out⟩
  replace HS := Lib.hid (show ({winX r q with v := mergeV [r.v, q.v]}, 0) = S from (if_neg (fun h => h h1)).symm.trans HS.out)
  obtain ⟨k, x, hk, hx, hw, hxr⟩ : ∃ (k : Nat) (x : Rcd × RSh), k < 2 ∧ [(r, a), (q, b)][k]? = some x ∧ winR r q = (k, 0) ∧ winX r q = x.1 := by
    by_cases h2 : 0 < ordV q.v r.v
    · exact ⟨1, (q, b), by omega, rfl, by unfold winR; rw [if_neg (fun h => h h1), if_pos h2], by unfold winX; rw [if_pos h2]⟩
    · exact ⟨0, (r, a), by omega, rfl, by unfold winR; rw [if_neg (fun h => h h1), if_neg h2], by unfold winX; rw [if_neg h2]⟩
  have HME := Lib.hid (show mergeE [r.v, q.v] = 0 by
    have hr0 : okR r = 0 := by
      unfold twoE at h1
      split at h1
      · omega
      · rename_i h; omega
    have hq0 : okR q = 0 := by
      unfold twoE at h1
      rw [if_neg (by omega)] at h1
      split at h1
      · omega
      · rename_i h; omega
    have h3 : allOk [r.v, q.v] = true := by simp [allOk, okR_v' hr0, okR_v' hq0]
    exact (merge_ok _ h3).1)
  have HX := Lib.hid hx
  have HW := Lib.hid hw
  have HXR := Lib.hid hxr
  rw [HW.out]
  clear h1 hx hw hxr
  rw [HXR.out] at HS
  have c1 := cell_of_row _ _ 1 _ _ _ X.out
  have c2 := cell_of_row _ _ 1 _ _ _ Y.out
  have hn1 := HR.out.hn
  have hn2 := HQ.out.hn
  have ML := Lib.hid (MReads.lit w4 B [⟨a.A, a.n, a.c, r.v⟩, ⟨b.A, b.n, b.c, q.v⟩] #[.slice a.A a.n a.c, .slice b.A b.n b.c] 22 rfl (by omega) (by
    intro v hv
    simp only [List.mem_cons, List.not_mem_nil, or_false] at hv
    rcases hv with rfl | rfl
    · exact ⟨Reads.below HR.out.cs (BA.out.mono hB), by dsimp only; omega⟩
    · exact ⟨Reads.below HQ.out.cs (BA.out.mono hB), by dsimp only; omega⟩))
  have b3 := (Below.refl w4.heap.size w4).alloc (Nat.le_refl _) (.cells #[.slice a.A a.n a.c, .slice b.A b.n b.c] 22)
  have hz5 : w4.heap.size + 1 ≤ (w4.alloc (.cells #[.slice a.A a.n a.c, .slice b.A b.n b.c] 22)).heap.size := by simp
  go_wp2_with fail
  clear c1 c2
  generalize w4.alloc (.cells #[.slice a.A a.n a.c, .slice b.A b.n b.c] 22) = w5 at *
  generalize hg5 : w4.heap.size = g5 at *
  replace X := Lib.hid ((b3.block w.heap.size (by omega)).trans X.out)
  replace Y := Lib.hid ((b3.block (w.heap.size + 1) (by omega)).trans Y.out)
  replace Z := Lib.hid ((b3.block (w.heap.size + 2) (by omega)).trans Z.out)
  replace BA := Lib.hid (BA.out.trans (b3.mono (by omega)))
  replace hz : w.heap.size + 3 ≤ w5.heap.size := by omega
  clear b3 hg5
  refine (merge_v (g5 + 1) (some ⟨g5, 0, none⟩) 2 2 [⟨a.A, a.n, a.c, r.v⟩, ⟨b.A, b.n, b.c, q.v⟩] w5 ML.out (by omega) (by omega) (by
    intro v hv
    simp only [List.mem_cons, List.not_mem_nil, or_false] at hv
    rcases hv with rfl | rfl
    · exact HR.out.ft
    · exact HQ.out.ft)).mono ?_
  rintro e w6 ⟨A', n', c', rfl, ho, b3⟩
  have O6 := Lib.hid (show COwn w6 w5.heap.size A' n' c' (mergeV [r.v, q.v]) from ho)
  rw [show ([⟨a.A, a.n, a.c, r.v⟩, ⟨b.A, b.n, b.c, q.v⟩] : List Vec).map Vec.l = [r.v, q.v] from rfl, HME.out]
  have hz6 := hz
  clear ho ML hz5
  replace X := Lib.hid ((b3.block w.heap.size (by omega)).trans X.out)
  replace Y := Lib.hid ((b3.block (w.heap.size + 1) (by omega)).trans Y.out)
  replace Z := Lib.hid ((b3.block (w.heap.size + 2) (by omega)).trans Z.out)
  replace BA := Lib.hid (BA.out.trans (b3.mono (by omega)))
  replace hz : w.heap.size + 3 ≤ w6.heap.size := by have := b3.size; omega
  clear b3
  have b3 := (Below.refl w6.heap.size w6).alloc (Nat.le_refl _) (.cells (rcC (r, a) ++ rcC (q, b)).toArray 27)
  have hz7 : w6.heap.size + 1 ≤ (w6.alloc (.cells (rcC (r, a) ++ rcC (q, b)).toArray 27)).heap.size := by simp
  have RW := Lib.hid (rows2 (x := (r, a)) (y := (q, b)) (heap_alloc_new w6 (.cells (rcC (r, a) ++ rcC (q, b)).toArray 27)) (Nat.lt_succ_self _)
    (((HR.out.below (BA.out.mono hB)).below (b3.mono (by have := BA.out.size; omega))).more (by have := BA.out.size; omega)) (((HQ.out.below (BA.out.mono hB)).below (b3.mono (by have := BA.out.size; omega))).more (by have := BA.out.size; omega)))
  obtain ⟨ad, x', hA, hx', hx2, hc⟩ := RW.out.at_ hk
  obtain rfl := Option.some.inj hA
  obtain rfl : x = x' := Option.some.inj (HX.out.symm.trans hx')
  have HX2 := Lib.hid hx2
  have HC := Lib.hid (show ∀ j u, (rcC x)[j]? = some u → (w6.alloc (.cells (rcC (r, a) ++ rcC (q, b)).toArray 27)).cell? ((⟨w6.heap.size, k * 7, none⟩ : Addr).add j) = some u by
    have := hc _ (Below.refl _ _)
    rwa [add_hd] at this)
  have k0 : (0 : Int) ≤ (k : Int) := by omega
  clear RW hA hx' hx2 hc
  go_wp2_with (first
    | (refine wpList_load_row rfl 27 (.tmp 2) rfl w.heap.size rfl 27 _ (0, 0) _ X.out Tryd.underlying27 rfl HI.out ?_)
    | (refine wpList_load_row rfl 27 (.tmp 3) rfl (w.heap.size + 1) rfl 27 _ (0, 0) _ Y.out Tryd.underlying27 rfl HI.out ?_)
    | (refine wpList_load_slot rfl 27 (.tmp 37) rfl ⟨w6.heap.size, k * 7, none⟩ rfl [.string (st x.1.path), .slice x.2.A x.2.n x.2.c, .int .i64 x.1.dev, .bool x.1.gone, .int .i64 x.1.size, .int .i64 x.1.len, .slice x.2.D x.2.m x.2.k] _ HC.out Tryd.underlying27 rfl HI.out ?_)
    | fail)
  clear HC
  change Calls Tryd.prog 41 _ (w6.alloc (.cells (rcC (r, a) ++ rcC (q, b)).toArray 27)) _
  replace X := Lib.hid ((b3.block w.heap.size (by omega)).trans X.out)
  replace Y := Lib.hid ((b3.block (w.heap.size + 1) (by omega)).trans Y.out)
  replace Z := Lib.hid ((b3.block (w.heap.size + 2) (by omega)).trans Z.out)
  replace BA := Lib.hid (BA.out.trans (b3.mono (by omega)))
  replace O6 := Lib.hid (O6.out.below b3)
  replace hz : w.heap.size + 3 ≤ (w6.alloc (.cells (rcC (r, a) ++ rcC (q, b)).toArray 27)).heap.size := by omega
  clear b3
  generalize w6.alloc (.cells (rcC (r, a) ++ rcC (q, b)).toArray 27) = w7 at *
  generalize w6.heap.size = g6 at *
  refine (recCopy_v x.1 x.2 (g6 + 1) w7 HX2.out hz7).mono ?_
  rintro e w8 ⟨A1, c1, D1, k1, rfl, o1, o2, b3⟩
  replace O6 := Lib.hid (O6.out.below b3)
  have O8 := Lib.hid (own_dn o2 hz)
  clear o1 o2
  replace X := Lib.hid ((b3.block w.heap.size (by omega)).trans X.out)
  replace Y := Lib.hid ((b3.block (w.heap.size + 1) (by omega)).trans Y.out)
  replace Z := Lib.hid ((b3.block (w.heap.size + 2) (by omega)).trans Z.out)
  replace BA := Lib.hid (BA.out.trans (b3.mono (by omega)))
  replace hz : w.heap.size + 3 ≤ w8.heap.size := by have := b3.size; omega
  clear b3
  have hnm := HX2.out.hm
  have b3 := (Below.refl w8.heap.size w8).alloc (Nat.le_refl _) (.cells #[.string (st x.1.path), .slice A1 x.2.n c1, .int .i64 x.1.dev, .bool x.1.gone, .int .i64 x.1.size, .int .i64 x.1.len, .slice D1 x.2.m k1] 27)
  have Q9 := heap_alloc_new w8 (.cells #[.string (st x.1.path), .slice A1 x.2.n c1, .int .i64 x.1.dev, .bool x.1.gone, .int .i64 x.1.size, .int .i64 x.1.len, .slice D1 x.2.m k1] 27)
  have hz9 : w8.heap.size + 1 ≤ (w8.alloc (.cells #[.string (st x.1.path), .slice A1 x.2.n c1, .int .i64 x.1.dev, .bool x.1.gone, .int .i64 x.1.size, .int .i64 x.1.len, .slice D1 x.2.m k1] 27)).heap.size := by simp
  go_upto_region 8 with fail
  generalize w8.alloc (.cells #[.string (st x.1.path), .slice A1 x.2.n c1, .int .i64 x.1.dev, .bool x.1.gone, .int .i64 x.1.size, .int .i64 x.1.len, .slice D1 x.2.m k1] 27) = w9 at *
  have L6 : ∀ j, (Value.slice A' n' c').ownBlock = some j → j < w8.heap.size := fun j hj => (O6.out.1.lt j hj).2
  have L8 : ∀ j, (Value.slice D1 x.2.m k1).ownBlock = some j → j < w8.heap.size := fun j hj => (O8.out.lt j hj).2
  replace O6 := Lib.hid (O6.out.below b3)
  replace O8 := Lib.hid (own_keep O8.out (w' := w9) (fun j hj => b3.block j (O8.out.lt j hj).2))
  have hz8 := hz
  replace X := Lib.hid ((b3.block w.heap.size (by omega)).trans X.out)
  replace Y := Lib.hid ((b3.block (w.heap.size + 1) (by omega)).trans Y.out)
  replace Z := Lib.hid ((b3.block (w.heap.size + 2) (by omega)).trans Z.out)
  replace BA := Lib.hid (BA.out.trans (b3.mono (by omega)))
  have k9 : w9.cell? ⟨w8.heap.size, 1, none⟩ = some (.slice A1 x.2.n c1) := by rw [cell_of_row _ _ 1 _ _ _ Q9]; rfl
  have f9 := frozen_of_row _ w8.heap.size 1 _ _ Q9
  have Q10 := Lib.hid (show (w9.setCell ⟨w8.heap.size, 1, none⟩ (.slice A' n' c')).heap[w8.heap.size]? = some (.cells #[.string (st x.1.path), .slice A' n' c', .int .i64 x.1.dev, .bool x.1.gone, .int .i64 x.1.size, .int .i64 x.1.len, .slice D1 x.2.m k1] 27 (0, 0)) from heap_setCell_same _ w8.heap.size 1 _ _ (.slice A' n' c') Q9)
  have Z10 := Lib.hid ((Below.heap_setCell w9 ⟨w8.heap.size, 1, none⟩ (.slice A' n' c') (w.heap.size + 2) (by simp; omega)).trans Z.out)
  have B10 := Lib.hid (BA.out.setCell (p := ⟨w8.heap.size, 1, none⟩) (show w.heap.size ≤ w8.heap.size by omega) (.slice A' n' c'))
  have P6 := Lib.hid (own_keep O6.out.1 (w' := w9.setCell ⟨w8.heap.size, 1, none⟩ (.slice A' n' c')) (fun j hj => Below.heap_setCell w9 _ _ j (by have := L6 j hj; simp; omega)))
  have P8 := Lib.hid (own_keep O8.out (w' := w9.setCell ⟨w8.heap.size, 1, none⟩ (.slice A' n' c')) (fun j hj => Below.heap_setCell w9 _ _ j (by have := L8 j hj; simp; omega)))
  have hnl := O6.out.reads.len
  have hn16 : n' ≤ 16 := by have := merge_len [r.v, q.v]; omega
  clear Q9 X Y BA Z L6 L8 O6 O8 b3 hnl
  go_upto_region 9 with fail
  clear k9 f9
  generalize w9.setCell ⟨w8.heap.size, 1, none⟩ (.slice A' n' c') = w10 at *
  generalize w8.heap.size = g8 at *
  have XS := Lib.hid (setRow_heap w10 (w.heap.size + 2) _ #[.string (st x.1.path), .slice A' n' c', .int .i64 x.1.dev, .bool x.1.gone, .int .i64 x.1.size, .int .i64 x.1.len, .slice D1 x.2.m k1] _ _ Z10.out)
  have BS := Lib.hid (below_setRow B10.out (show w.heap.size ≤ w.heap.size + 2 by omega) #[.string (st x.1.path), .slice A' n' c', .int .i64 x.1.dev, .bool x.1.gone, .int .i64 x.1.size, .int .i64 x.1.len, .slice D1 x.2.m k1])
  have S6 := Lib.hid (show CReads (w10.setRow (w.heap.size + 2) #[.string (st x.1.path), .slice A' n' c', .int .i64 x.1.dev, .bool x.1.gone, .int .i64 x.1.size, .int .i64 x.1.len, .slice D1 x.2.m k1]) (w10.setRow (w.heap.size + 2) #[.string (st x.1.path), .slice A' n' c', .int .i64 x.1.dev, .bool x.1.gone, .int .i64 x.1.size, .int .i64 x.1.len, .slice D1 x.2.m k1]).heap.size A' n' (mergeV [r.v, q.v]) from Reads.of_own (own_keep P6.out (fun j hj => setRow_other _ _ _ _ (by have := (P6.out.lt j hj).1; omega))))
  have S8 := Lib.hid (show DReads (w10.setRow (w.heap.size + 2) #[.string (st x.1.path), .slice A' n' c', .int .i64 x.1.dev, .bool x.1.gone, .int .i64 x.1.size, .int .i64 x.1.len, .slice D1 x.2.m k1]) (w10.setRow (w.heap.size + 2) #[.string (st x.1.path), .slice A' n' c', .int .i64 x.1.dev, .bool x.1.gone, .int .i64 x.1.size, .int .i64 x.1.len, .slice D1 x.2.m k1]).heap.size D1 x.2.m x.1.ds from Reads.of_own (own_keep P8.out (fun j hj => setRow_other _ _ _ _ (by have := (P8.out.lt j hj).1; omega))))
  obtain rfl := HS.out
  go_wp2_with (first
    | (refine wpList_load_row rfl 27 (.tmp 9) rfl g8 rfl 27 _ (0, 0) _ Q10.out Tryd.underlying27 rfl HI.out ?_)
    | (refine wpList_store_row rfl 27 (.tmp 4) (.tmp 42) rfl (w.heap.size + 2) #[.string (st x.1.path), .slice A' n' c', .int .i64 x.1.dev, .bool x.1.gone, .int .i64 x.1.size, .int .i64 x.1.len, .slice D1 x.2.m k1] rfl rfl 27 _ Z10.out HI.out rfl (by simp [Value.oneCell']) ?_)
    | fail)
  exact bodyPost_ret (results_row_tmp Tryd.results15 _ _ (w.heap.size + 2) _ #[.string (st x.1.path), .slice A' n' c', .int .i64 x.1.dev, .bool x.1.gone, .int .i64 x.1.size, .int .i64 x.1.len, .slice D1 x.2.m k1] _ _ rfl XS.out Tryd.underlying27 rfl HI.out) rfl ⟨⟨A', n', c', D1, x.2.m, k1⟩, rfl, ⟨S6.out, S8.out, by dsimp only; omega, hnm, merge_fit _ (by
    intro v hv
    simp only [List.mem_cons, List.not_mem_nil, or_false] at hv
    rcases hv with rfl | rfl
    · exact HR.out.ft
    · exact HQ.out.ft)⟩, (fun ad h => by have := own_lo P6.out ad h; omega), (fun ad h => by have := own_lo P8.out ad h; omega), BS.out⟩
theorem settle_v (r q : Rcd) (a b : RSh) (B : Nat) (w : World) (he : EnvM w) (hr : RReads w B r a) (hq : RReads w B q b) (hB : B ≤ w.heap.size) :
    Calls Tryd.prog 15 #[.agg #[.string (st r.path), .slice a.A a.n a.c, .int .i64 r.dev, .bool r.gone, .int .i64 r.size, .int .i64 r.len, .slice a.D a.m a.k], .agg #[.string (st q.path), .slice b.A b.n b.c, .int .i64 q.dev, .bool q.gone, .int .i64 q.size, .int .i64 q.len, .slice b.D b.m b.k]] w fun e w' => ∃ x : RSh, e = .returned (.tuple #[.agg #[.string (st (setR r q).1.path), .slice x.A x.n x.c, .int .i64 (setR r q).1.dev, .bool (setR r q).1.gone, .int .i64 (setR r q).1.size, .int .i64 (setR r q).1.len, .slice x.D x.m x.k], .int .i64 ((setR r q).2 : Int)]) ∧ RReads w' w'.heap.size (setR r q).1 x ∧ Below w.heap.size w w' := by
  refine (settle_o r q a b B w he hr hq hB).mono ?_
  rintro e w' ⟨x, h1, h2, _, _, h3⟩
  exact ⟨x, h1, h2, h3⟩
end Go.Proofs.YtndekohimfjdeaaDoor

namespace Go.Proofs.YtndekohimfjdeaaDoor
open Go.RowKit Go.Shelf
def verR (r q : Rcd) : Bool := decide (r.path = q.path) && decide (cmpV r.v q.v = 1)
set_option maxRecDepth 100000 in
set_option maxHeartbeats 8000000 in
theorem version_v (r q : Rcd) (a b : RSh) (B : Nat) (w : World) (hr : RReads w B r a) (hq : RReads w B q b) (hB : B ≤ w.heap.size) :
    Calls Tryd.prog 17 #[.agg #[.string (st r.path), .slice a.A a.n a.c, .int .i64 r.dev, .bool r.gone, .int .i64 r.size, .int .i64 r.len, .slice a.D a.m a.k], .agg #[.string (st q.path), .slice b.A b.n b.c, .int .i64 q.dev, .bool q.gone, .int .i64 q.size, .int .i64 q.len, .slice b.D b.m b.k]] w fun e w' => e = .returned (.bool (verR r q)) ∧ Below w.heap.size w w' := by
  have HI := Lib.hid (show (Tryd.prog.info? 27).map (·.size) = some 7 by kernel_rfl)
  have HL := Lib.hid (show (Tryd.prog.info? 25).map (·.size) = some 3 by kernel_rfl)
  have BA := Lib.hid (((Below.refl w.heap.size w).alloc (Nat.le_refl _) (.cells #[.string (st r.path), .slice a.A a.n a.c, .int .i64 r.dev, .bool r.gone, .int .i64 r.size, .int .i64 r.len, .slice a.D a.m a.k] 27)).alloc (by simp) (.cells #[.string (st q.path), .slice b.A b.n b.c, .int .i64 q.dev, .bool q.gone, .int .i64 q.size, .int .i64 q.len, .slice b.D b.m b.k] 27))
  have Y := Lib.hid (heap_alloc2_new w (.cells #[.string (st r.path), .slice a.A a.n a.c, .int .i64 r.dev, .bool r.gone, .int .i64 r.size, .int .i64 r.len, .slice a.D a.m a.k] 27) (.cells #[.string (st q.path), .slice b.A b.n b.c, .int .i64 q.dev, .bool q.gone, .int .i64 q.size, .int .i64 q.len, .slice b.D b.m b.k] 27))
  have X := Lib.hid (heap_alloc2_old w (.cells #[.string (st r.path), .slice a.A a.n a.c, .int .i64 r.dev, .bool r.gone, .int .i64 r.size, .int .i64 r.len, .slice a.D a.m a.k] 27) (.cells #[.string (st q.path), .slice b.A b.n b.c, .int .i64 q.dev, .bool q.gone, .int .i64 q.size, .int .i64 q.len, .slice b.D b.m b.k] 27))
  have HR := Lib.hid hr
  have HQ := Lib.hid hq
  have hn1 := hr.hn
  have hn2 := hq.hn
  have hm1 := hr.hm
  have hm2 := hq.hm
  have hz : w.heap.size + 2 ≤ ((w.alloc (.cells #[.string (st r.path), .slice a.A a.n a.c, .int .i64 r.dev, .bool r.gone, .int .i64 r.size, .int .i64 r.len, .slice a.D a.m a.k] 27)).alloc (.cells #[.string (st q.path), .slice b.A b.n b.c, .int .i64 q.dev, .bool q.gone, .int .i64 q.size, .int .i64 q.len, .slice b.D b.m b.k] 27)).heap.size := by simp
  clear hr hq
  go_enter Tryd.func17, Tryd.ntmps17
  go_upto_region 1 with fail
  generalize (w.alloc (.cells #[.string (st r.path), .slice a.A a.n a.c, .int .i64 r.dev, .bool r.gone, .int .i64 r.size, .int .i64 r.len, .slice a.D a.m a.k] 27)).alloc (.cells #[.string (st q.path), .slice b.A b.n b.c, .int .i64 q.dev, .bool q.gone, .int .i64 q.size, .int .i64 q.len, .slice b.D b.m b.k] 27) = w2 at *
  have c1 := cell_of_row _ _ 0 _ _ _ X.out
  have c2 := cell_of_row _ _ 0 _ _ _ Y.out
  have c3 := cell_of_row _ _ 1 _ _ _ X.out
  have c4 := cell_of_row _ _ 1 _ _ _ Y.out
  have dp := st_beq r.path q.path
  by_cases hp : r.path = q.path
  case neg =>
    rw [decide_eq_false hp] at dp
    have HF := Lib.hid (show verR r q = false by unfold verR; rw [decide_eq_false hp]; rfl)
    clear hp
    go_wp2
    go_ret
    exact ⟨by rw [HF.out]; rfl, BA.out⟩
  rw [decide_eq_true hp] at dp
  have HF := Lib.hid (show verR r q = decide (cmpV r.v q.v = 1) by unfold verR; rw [decide_eq_true hp]; rfl)
  clear hp
  go_wp2_with fail
  refine (rcompare_v B a.A b.A a.n a.c b.n b.c r.v q.v w2 (Reads.below HR.out.cs (BA.out.mono hB)) (Reads.below HQ.out.cs (BA.out.mono hB)) (by omega) (by omega) (by omega) HR.out.ft HQ.out.ft).mono ?_
  rintro e w3 ⟨rfl, b3⟩
  clear c1 c2 c3 c4
  replace X := Lib.hid ((b3.block w.heap.size (by omega)).trans X.out)
  replace Y := Lib.hid ((b3.block (w.heap.size + 1) (by omega)).trans Y.out)
  replace BA := Lib.hid (BA.out.trans (b3.mono (by omega)))
  replace hz : w.heap.size + 2 ≤ w3.heap.size := by have := b3.size; omega
  clear b3
  by_cases h1 : cmpV r.v q.v = 1
  · rw [decide_eq_true h1] at HF
    rw [h1]
    clear h1
    go_wp2
    go_ret
    exact ⟨by rw [HF.out]; rfl, BA.out⟩
  · rw [decide_eq_false h1] at HF
    have d1 : (cmpV r.v q.v == 1) = false := by rw [beq_eq_false_iff_ne]; exact h1
    clear h1
    go_wp2
    go_ret
    exact ⟨by rw [HF.out]; rfl, BA.out⟩
def behindR (r q : Rcd) : Bool := decide (cmpV r.v q.v = 2 ∨ cmpV r.v q.v = 1)
set_option maxRecDepth 100000 in
set_option maxHeartbeats 8000000 in
theorem behind_v (r q : Rcd) (a b : RSh) (B : Nat) (w : World) (hr : RReads w B r a) (hq : RReads w B q b) (hB : B ≤ w.heap.size) :
    Calls Tryd.prog 21 #[.agg #[.string (st r.path), .slice a.A a.n a.c, .int .i64 r.dev, .bool r.gone, .int .i64 r.size, .int .i64 r.len, .slice a.D a.m a.k], .agg #[.string (st q.path), .slice b.A b.n b.c, .int .i64 q.dev, .bool q.gone, .int .i64 q.size, .int .i64 q.len, .slice b.D b.m b.k]] w fun e w' => e = .returned (.bool (behindR r q)) ∧ Below w.heap.size w w' := by
  have HI := Lib.hid (show (Tryd.prog.info? 27).map (·.size) = some 7 by kernel_rfl)
  have HL := Lib.hid (show (Tryd.prog.info? 25).map (·.size) = some 3 by kernel_rfl)
  have BA := Lib.hid (((Below.refl w.heap.size w).alloc (Nat.le_refl _) (.cells #[.string (st r.path), .slice a.A a.n a.c, .int .i64 r.dev, .bool r.gone, .int .i64 r.size, .int .i64 r.len, .slice a.D a.m a.k] 27)).alloc (by simp) (.cells #[.string (st q.path), .slice b.A b.n b.c, .int .i64 q.dev, .bool q.gone, .int .i64 q.size, .int .i64 q.len, .slice b.D b.m b.k] 27))
  have Y := Lib.hid (heap_alloc2_new w (.cells #[.string (st r.path), .slice a.A a.n a.c, .int .i64 r.dev, .bool r.gone, .int .i64 r.size, .int .i64 r.len, .slice a.D a.m a.k] 27) (.cells #[.string (st q.path), .slice b.A b.n b.c, .int .i64 q.dev, .bool q.gone, .int .i64 q.size, .int .i64 q.len, .slice b.D b.m b.k] 27))
  have X := Lib.hid (heap_alloc2_old w (.cells #[.string (st r.path), .slice a.A a.n a.c, .int .i64 r.dev, .bool r.gone, .int .i64 r.size, .int .i64 r.len, .slice a.D a.m a.k] 27) (.cells #[.string (st q.path), .slice b.A b.n b.c, .int .i64 q.dev, .bool q.gone, .int .i64 q.size, .int .i64 q.len, .slice b.D b.m b.k] 27))
  have HR := Lib.hid hr
  have HQ := Lib.hid hq
  have hn1 := hr.hn
  have hn2 := hq.hn
  have hm1 := hr.hm
  have hm2 := hq.hm
  have hz : w.heap.size + 2 ≤ ((w.alloc (.cells #[.string (st r.path), .slice a.A a.n a.c, .int .i64 r.dev, .bool r.gone, .int .i64 r.size, .int .i64 r.len, .slice a.D a.m a.k] 27)).alloc (.cells #[.string (st q.path), .slice b.A b.n b.c, .int .i64 q.dev, .bool q.gone, .int .i64 q.size, .int .i64 q.len, .slice b.D b.m b.k] 27)).heap.size := by simp
  clear hr hq
  go_enter Tryd.func21, Tryd.ntmps21
  go_upto_region 1 with fail
  generalize (w.alloc (.cells #[.string (st r.path), .slice a.A a.n a.c, .int .i64 r.dev, .bool r.gone, .int .i64 r.size, .int .i64 r.len, .slice a.D a.m a.k] 27)).alloc (.cells #[.string (st q.path), .slice b.A b.n b.c, .int .i64 q.dev, .bool q.gone, .int .i64 q.size, .int .i64 q.len, .slice b.D b.m b.k] 27) = w2 at *
  have c3 := cell_of_row _ _ 1 _ _ _ X.out
  have c4 := cell_of_row _ _ 1 _ _ _ Y.out
  go_wp2_with fail
  refine (rcompare_v B a.A b.A a.n a.c b.n b.c r.v q.v w2 (Reads.below HR.out.cs (BA.out.mono hB)) (Reads.below HQ.out.cs (BA.out.mono hB)) (by omega) (by omega) (by omega) HR.out.ft HQ.out.ft).mono ?_
  rintro e w3 ⟨rfl, b3⟩
  clear c3 c4
  replace X := Lib.hid ((b3.block w.heap.size (by omega)).trans X.out)
  replace Y := Lib.hid ((b3.block (w.heap.size + 1) (by omega)).trans Y.out)
  replace BA := Lib.hid (BA.out.trans (b3.mono (by omega)))
  replace hz : w.heap.size + 2 ≤ w3.heap.size := by have := b3.size; omega
  clear b3
  by_cases h2 : cmpV r.v q.v = 2
  · have HF := Lib.hid (show behindR r q = true from decide_eq_true (.inl h2))
    rw [h2]
    clear h2
    go_wp2
    go_ret
    exact ⟨by rw [HF.out]; rfl, BA.out⟩
  have d2 : (cmpV r.v q.v == 2) = false := by rw [beq_eq_false_iff_ne]; exact h2
  by_cases h1 : cmpV r.v q.v = 1
  · have HF := Lib.hid (show behindR r q = true from decide_eq_true (.inr h1))
    rw [h1] at d2 ⊢
    clear h1 h2
    go_wp2
    go_ret
    exact ⟨by rw [HF.out]; rfl, BA.out⟩
  · have d1 : (cmpV r.v q.v == 1) = false := by rw [beq_eq_false_iff_ne]; exact h1
    have HF := Lib.hid (show behindR r q = false from decide_eq_false (by omega))
    clear h1 h2
    go_wp2
    go_ret
    exact ⟨by rw [HF.out]; rfl, BA.out⟩
/-- Are records the same? -/
def sameR (r q : Rcd) : Bool := decide (r.path = q.path) && (decide (r.v = q.v) && (decide (r.dev = q.dev) && (decide (r.gone = q.gone) && sameP r.size r.len q.size q.len r.ds q.ds)))
set_option maxRecDepth 100000 in
set_option maxHeartbeats 8000000 in
theorem krec_v (r q : Rcd) (a b : RSh) (B : Nat) (w : World) (hr : RReads w B r a) (hq : RReads w B q b) (hB : B ≤ w.heap.size) :
    Calls Tryd.prog 18 #[.agg #[.string (st r.path), .slice a.A a.n a.c, .int .i64 r.dev, .bool r.gone, .int .i64 r.size, .int .i64 r.len, .slice a.D a.m a.k], .agg #[.string (st q.path), .slice b.A b.n b.c, .int .i64 q.dev, .bool q.gone, .int .i64 q.size, .int .i64 q.len, .slice b.D b.m b.k]] w fun e w' => e = .returned (.bool (sameR r q)) ∧ Below w.heap.size w w' := by
  have HI := Lib.hid (show (Tryd.prog.info? 27).map (·.size) = some 7 by kernel_rfl)
  have HL := Lib.hid (show (Tryd.prog.info? 25).map (·.size) = some 3 by kernel_rfl)
  have BA := Lib.hid (((Below.refl w.heap.size w).alloc (Nat.le_refl _) (.cells #[.string (st r.path), .slice a.A a.n a.c, .int .i64 r.dev, .bool r.gone, .int .i64 r.size, .int .i64 r.len, .slice a.D a.m a.k] 27)).alloc (by simp) (.cells #[.string (st q.path), .slice b.A b.n b.c, .int .i64 q.dev, .bool q.gone, .int .i64 q.size, .int .i64 q.len, .slice b.D b.m b.k] 27))
  have Y := Lib.hid (heap_alloc2_new w (.cells #[.string (st r.path), .slice a.A a.n a.c, .int .i64 r.dev, .bool r.gone, .int .i64 r.size, .int .i64 r.len, .slice a.D a.m a.k] 27) (.cells #[.string (st q.path), .slice b.A b.n b.c, .int .i64 q.dev, .bool q.gone, .int .i64 q.size, .int .i64 q.len, .slice b.D b.m b.k] 27))
  have X := Lib.hid (heap_alloc2_old w (.cells #[.string (st r.path), .slice a.A a.n a.c, .int .i64 r.dev, .bool r.gone, .int .i64 r.size, .int .i64 r.len, .slice a.D a.m a.k] 27) (.cells #[.string (st q.path), .slice b.A b.n b.c, .int .i64 q.dev, .bool q.gone, .int .i64 q.size, .int .i64 q.len, .slice b.D b.m b.k] 27))
  have HR := Lib.hid hr
  have HQ := Lib.hid hq
  have hn1 := hr.hn
  have hn2 := hq.hn
  have hm1 := hr.hm
  have hm2 := hq.hm
  have hz : w.heap.size + 2 ≤ ((w.alloc (.cells #[.string (st r.path), .slice a.A a.n a.c, .int .i64 r.dev, .bool r.gone, .int .i64 r.size, .int .i64 r.len, .slice a.D a.m a.k] 27)).alloc (.cells #[.string (st q.path), .slice b.A b.n b.c, .int .i64 q.dev, .bool q.gone, .int .i64 q.size, .int .i64 q.len, .slice b.D b.m b.k] 27)).heap.size := by simp
  clear hr hq
  go_enter Tryd.func18, Tryd.ntmps18
  go_upto_region 1 with fail
  generalize (w.alloc (.cells #[.string (st r.path), .slice a.A a.n a.c, .int .i64 r.dev, .bool r.gone, .int .i64 r.size, .int .i64 r.len, .slice a.D a.m a.k] 27)).alloc (.cells #[.string (st q.path), .slice b.A b.n b.c, .int .i64 q.dev, .bool q.gone, .int .i64 q.size, .int .i64 q.len, .slice b.D b.m b.k] 27) = w2 at *
  have c1 := cell_of_row _ _ 0 _ _ _ X.out
  have c2 := cell_of_row _ _ 0 _ _ _ Y.out
  have c3 := cell_of_row _ _ 1 _ _ _ X.out
  have c4 := cell_of_row _ _ 1 _ _ _ Y.out
  have dp := st_beq r.path q.path
  by_cases hp : r.path = q.path
  case neg =>
    rw [decide_eq_false hp] at dp
    have HF := Lib.hid (show sameR r q = false by unfold sameR; simp [hp])
    clear hp
    go_wp2
    go_ret
    exact ⟨by rw [HF.out]; rfl, BA.out⟩
  rw [decide_eq_true hp] at dp
  have HP := Lib.hid hp
  clear hp
  go_wp2_with fail
  refine (same_v B a.A b.A a.n a.c b.n b.c r.v q.v w2 (Reads.below HR.out.cs (BA.out.mono hB)) (Reads.below HQ.out.cs (BA.out.mono hB)) (by omega) (by omega)).mono ?_
  rintro e w3 ⟨rfl, b3⟩
  clear c1 c2 c3 c4
  replace X := Lib.hid ((b3.block w.heap.size (by omega)).trans X.out)
  replace Y := Lib.hid ((b3.block (w.heap.size + 1) (by omega)).trans Y.out)
  replace BA := Lib.hid (BA.out.trans (b3.mono (by omega)))
  replace hz : w.heap.size + 2 ≤ w3.heap.size := by have := b3.size; omega
  clear b3
  by_cases h1 : r.v = q.v
  case neg =>
    rw [decide_eq_false h1]
    have HF := Lib.hid (show sameR r q = false by unfold sameR; simp [h1])
    clear h1
    go_wp2
    go_ret
    exact ⟨by rw [HF.out]; rfl, BA.out⟩
  rw [decide_eq_true h1]
  have c1 := cell_of_row _ _ 2 _ _ _ X.out
  have c2 := cell_of_row _ _ 2 _ _ _ Y.out
  by_cases h2 : r.dev = q.dev
  case neg =>
    have d2 : (r.dev == q.dev) = false := by rw [beq_eq_false_iff_ne]; exact h2
    have HF := Lib.hid (show sameR r q = false by unfold sameR; simp [h2])
    clear h2
    go_wp2
    go_ret
    exact ⟨by rw [HF.out]; rfl, BA.out⟩
  have d2 : (r.dev == q.dev) = true := by rw [beq_iff_eq]; exact h2
  have c3 := cell_of_row _ _ 3 _ _ _ X.out
  have c4 := cell_of_row _ _ 3 _ _ _ Y.out
  by_cases h3 : r.gone = q.gone
  case neg =>
    have d3 : (r.gone == q.gone) = false := by rw [beq_eq_false_iff_ne]; exact h3
    have HF := Lib.hid (show sameR r q = false by unfold sameR; simp [h3])
    clear h3
    go_wp2
    go_ret
    exact ⟨by rw [HF.out]; rfl, BA.out⟩
  have d3 : (r.gone == q.gone) = true := by rw [beq_iff_eq]; exact h3
  have HF := Lib.hid (show sameR r q = sameP r.size r.len q.size q.len r.ds q.ds by unfold sameR; simp [HP.out, h1, h2, h3])
  clear h1 h2 h3
  go_wp2_with (first
    | (refine wpList_load_slot rfl 25 (.tmp 32) rfl ⟨w.heap.size, 4, none⟩ rfl [.int .i64 r.size, .int .i64 r.len, .slice a.D a.m a.k] _ (rcells_at X.out (three_at rfl rfl rfl)) Tryd.underlying25 rfl HL.out ?_)
    | (refine wpList_load_slot rfl 25 (.tmp 34) rfl ⟨w.heap.size + 1, 4, none⟩ rfl [.int .i64 q.size, .int .i64 q.len, .slice b.D b.m b.k] _ (rcells_at Y.out (three_at rfl rfl rfl)) Tryd.underlying25 rfl HL.out ?_)
    | fail)
  refine (list_v r.size r.len q.size q.len a.D b.D a.m a.k b.m b.k B r.ds q.ds w3 (HR.out.dg.below (BA.out.mono hB)) (HQ.out.dg.below (BA.out.mono hB)) (by omega) (by omega)).mono ?_
  rintro e w4 ⟨rfl, b3⟩
  clear c1 c2 c3 c4
  replace X := Lib.hid ((b3.block w.heap.size (by omega)).trans X.out)
  replace Y := Lib.hid ((b3.block (w.heap.size + 1) (by omega)).trans Y.out)
  replace BA := Lib.hid (BA.out.trans (b3.mono (by omega)))
  replace hz : w.heap.size + 2 ≤ w4.heap.size := by have := b3.size; omega
  clear b3
  cases hs : sameP r.size r.len q.size q.len r.ds q.ds
  all_goals
    rw [hs] at HF
    clear hs
    go_wp2
    go_ret
    exact ⟨by rw [HF.out]; rfl, BA.out⟩
theorem pick_v (k : Nat) (w : World) (hk : k < 2) : Calls Tryd.prog 16 #[.int .i64 (k : Int), .int .i64 2] w fun e w' => e = .returned (.int .i64 (k : Int)) ∧ w = w' := by
  obtain rfl | rfl : k = 0 ∨ k = 1 := by omega
  all_goals
    go_enter Tryd.func16, Tryd.ntmps16
    go_wp2
    go_ret
    exact ⟨rfl, rfl⟩
end Go.Proofs.YtndekohimfjdeaaDoor

namespace Go.Proofs.YtndekohimfjdeaaDoor
open Go.RowKit Go.Shelf
theorem hstep {w w' : World} {g : Nat} {o : Obj} (h : w.heap[g]? = some o) (b : Below w.heap.size w w') : w'.heap[g]? = some o := (b.block g (Array.getElem?_eq_some_iff.1 h).1).trans h
theorem RReads.step {w w' : World} {r : Rcd} {a : RSh} (h : RReads w w.heap.size r a) (b : Below w.heap.size w w') : RReads w' w'.heap.size r a := (h.below b).more b.size
theorem okR_iff (r : Rcd) : okR r = 0 ↔ checkL r.path = 0 ∧ okV 0 r.v = true ∧ chk r.size r.len r.ds.length ≠ 3 ∧ ¬(val r.v r.dev = 0 ∨ (r.gone = true ∧ emptyR r = false) ∨ (r.gone = false ∧ chk r.size r.len r.ds.length ≠ 0)) := by
  unfold okR
  constructor
  · intro h
    split at h
    · omega
    · rename_i h1
      split at h
      · cases h
      · rename_i h2
        split at h
        · cases h
        · rename_i h3
          split at h
          · cases h
          · rename_i h4
            exact ⟨by omega, by simpa using h2, h3, h4⟩
  · rintro ⟨h1, h2, h3, h4⟩
    rw [if_neg (by omega), if_neg (by rw [h2]; decide), if_neg h3, if_neg h4]
theorem twoE_iff (r q : Rcd) : twoE r q = 0 ↔ okR r = 0 ∧ okR q = 0 ∧ r.path = q.path := by
  unfold twoE
  constructor
  · intro h
    split at h
    · omega
    · split at h
      · omega
      · split at h
        · exact ⟨by omega, by omega, by assumption⟩
        · cases h
  · rintro ⟨h1, h2, h3⟩
    rw [if_neg (by omega), if_neg (by omega), if_pos h3]
theorem twoE_swap (r q : Rcd) : twoE r q = 0 ↔ twoE q r = 0 := by
  rw [twoE_iff, twoE_iff]
  constructor
  · rintro ⟨h1, h2, h3⟩; exact ⟨h2, h1, h3.symm⟩
  · rintro ⟨h1, h2, h3⟩; exact ⟨h2, h1, h3.symm⟩
section
variable {l m n : List (Int × Nat)}
theorem leF_refl (f : Int → Nat) : leF f f := fun _ _ _ => Nat.le_refl _
theorem cmp_of_le (hl : okV 0 l = true) (hm : okV 0 m = true) (h : leF (val l) (val m)) : cmpV l m = 2 ∨ cmpV l m = 1 := by
  have := (least_iff l m hl hm).2 h
  unfold leastV at this
  exact of_decide_eq_true this
theorem le_anti (hl : okV 0 l = true) (hm : okV 0 m = true) (h : leF (val l) (val m)) (h' : leF (val m) (val l)) : l = m := by
  have h1 := cmp_of_le hl hm h
  have h2 := cmp_of_le hm hl h'
  rw [cmp_turn l m hl hm] at h2
  refine (same_iff l m hl hm).1 ?_
  rcases h1 with e | e
  · rw [e] at h2
    simp [turnedV] at h2
  · exact e
theorem ok_merge2 (hl : okV 0 l = true) (hm : okV 0 m = true) : okV 0 (mergeV [l, m]) = true := ok_merge _ (by simp [allOk, hl, hm])
theorem merge_eat (hl : okV 0 l = true) (hm : okV 0 m = true) (h : leF (val m) (val l)) : mergeV [l, m] = l :=
  le_anti (ok_merge2 hl hm) hl (merge_least hl hm (leF_refl _) h) (merge_upper hl hm).1
end
/-- The settled one of two that may be. -/
def setX (r q : Rcd) : Rcd := {winX r q with v := mergeV [r.v, q.v]}
theorem setR_ok {r q : Rcd} (h : twoE r q = 0) : setR r q = (setX r q, 0) := by
  unfold setR
  rw [if_neg (fun x => x h)]
  rfl
theorem winX_cases (r q : Rcd) : winX r q = r ∨ winX r q = q := by unfold winX; split <;> simp
theorem setX_ok {r q : Rcd} (h : okR r = 0) (h' : okR q = 0) (hp : r.path = q.path) : okR (setX r q) = 0 ∧ (setX r q).path = r.path := by
  have hv := ok_merge2 (okR_v h) (okR_v h')
  have key : ∀ x : Rcd, okR x = 0 → leF (val x.v) (val (mergeV [r.v, q.v])) → okR {x with v := mergeV [r.v, q.v]} = 0 := by
    intro x hx hle
    obtain ⟨k1, k2, k3, k4⟩ := (okR_iff x).1 hx
    refine (okR_iff _).2 ⟨k1, hv, k3, fun hc => k4 ?_⟩
    rcases hc with hc | hc
    · refine .inl ?_
      dsimp only at hc
      by_cases hd : 1 ≤ x.dev ∧ x.dev ≤ 16
      · have := hle x.dev hd.1 hd.2
        omega
      · rcases Int.lt_or_le x.dev 1 with h1 | h1
        · exact val_low x.v 0 x.dev k2 (by omega)
        · exact val_hi x.v 0 x.dev k2 (by omega)
    · exact .inr hc
  have hu := merge_upper (okR_v h) (okR_v h')
  unfold setX
  rcases winX_cases r q with e | e <;> rw [e]
  · exact ⟨key r h hu.1, rfl⟩
  · exact ⟨key q h' hu.2, hp.symm⟩
theorem settle_each {r q : Rcd} (h : okR r = 0) (h' : okR q = 0) (hp : r.path = q.path) (o : Rcd) (ho : o = r ∨ o = q) :
    okR o = 0 ∧ o.path = (setX r q).path ∧ twoE (setX r q) o = 0 ∧ verR (setX (setX r q) o) (setX r q) = true ∧ doR (setX r q) o = (1, 0) ∧
      (cmpV (setX r q).v o.v = 1 ∧ doR o (setX r q) = (1, 0) ∨ cmpV (setX r q).v o.v = 3 ∧ doR o (setX r q) = (2, 0)) := by
  obtain ⟨hx, hxp⟩ := setX_ok h h' hp
  have hv := ok_merge2 (okR_v h) (okR_v h')
  have hu := merge_upper (okR_v h) (okR_v h')
  have hoo : okR o = 0 := by rcases ho with rfl | rfl <;> assumption
  have hop : o.path = (setX r q).path := by rw [hxp]; rcases ho with rfl | rfl; rfl; exact hp.symm
  have hol : leF (val o.v) (val (setX r q).v) := by rcases ho with rfl | rfl; exact hu.1; exact hu.2
  have htwo : twoE (setX r q) o = 0 := (twoE_iff _ _).2 ⟨hx, hoo, hop.symm⟩
  have hvx : okV 0 (setX r q).v = true := hv
  have heat : mergeV [(setX r q).v, o.v] = (setX r q).v := merge_eat hvx (okR_v hoo) hol
  have hc := cmp_of_le (okR_v hoo) hvx hol
  have hct := cmp_turn o.v (setX r q).v (okR_v hoo) hvx
  obtain ⟨d, n, e1, _, e3⟩ := do_ok hx hoo hop.symm
  obtain ⟨d', n', e1', _, e3'⟩ := do_ok hoo hx hop
  have hcc : cmpV (setX r q).v o.v = 1 ∧ cmpV o.v (setX r q).v = 1 ∨ cmpV (setX r q).v o.v = 3 ∧ cmpV o.v (setX r q).v = 2 := by
    rcases hc with e | e
    · rw [e] at hct
      exact .inr ⟨by rw [hct]; rfl, e⟩
    · rw [e] at hct
      exact .inl ⟨by rw [hct]; rfl, e⟩
  refine ⟨hoo, hop, htwo, ?_, ?_, ?_⟩
  · have e : (setX (setX r q) o).path = (setX r q).path := (setX_ok hx hoo hop.symm).2
    have ev : (setX (setX r q) o).v = (setX r q).v := heat
    unfold verR
    rw [e, ev, decide_eq_true rfl, (same_iff _ _ hvx hvx).2 rfl]
    rfl
  · rw [e1]
    rcases hcc with ⟨c1, _⟩ | ⟨c1, _⟩
    · rcases e3 with ⟨a1, a2⟩ | ⟨a1, a2⟩ | ⟨a1, a2⟩ | ⟨a1, a2⟩ | ⟨a1, a2⟩
      · rw [a2]
      all_goals (rw [c1] at a1; cases a1)
    · rcases e3 with ⟨a1, a2⟩ | ⟨a1, a2⟩ | ⟨a1, a2⟩ | ⟨a1, a2⟩ | ⟨a1, a2⟩
      · rw [c1] at a1; cases a1
      · rw [a2]
      all_goals (rw [c1] at a1; cases a1)
  · rw [e1']
    rcases hcc with ⟨c1, c2⟩ | ⟨c1, c2⟩
    · refine .inl ⟨c1, ?_⟩
      rcases e3' with ⟨a1, a2⟩ | ⟨a1, a2⟩ | ⟨a1, a2⟩ | ⟨a1, a2⟩ | ⟨a1, a2⟩
      · rw [a2]
      all_goals (rw [c2] at a1; cases a1)
    · refine .inr ⟨c1, ?_⟩
      rcases e3' with ⟨a1, a2⟩ | ⟨a1, a2⟩ | ⟨a1, a2⟩ | ⟨a1, a2⟩ | ⟨a1, a2⟩
      · rw [c2] at a1; cases a1
      · rw [c2] at a1; cases a1
      · rw [a2]
      all_goals (rw [c2] at a1; cases a1)
theorem setX_same {r q : Rcd} (h : okR r = 0) (h' : okR q = 0) (hp : r.path = q.path) (hs : cmpV r.v q.v = 1) : verR (setX r q) r = true ∧ (setX r q).v = r.v := by
  have e := (same_iff _ _ (okR_v h) (okR_v h')).1 hs
  have ev : (setX r q).v = r.v := merge_eat (okR_v h) (okR_v h') (by rw [e]; exact leF_refl _)
  refine ⟨?_, ev⟩
  unfold verR
  rw [(setX_ok h h' hp).2, ev, decide_eq_true rfl, (same_iff _ _ (okR_v h) (okR_v h)).2 rfl]
  rfl
theorem setX_swap {r q : Rcd} (h : okR r = 0) (h' : okR q = 0) (hs : cmpV r.v q.v ≠ 1) : setX q r = setX r q := by
  have hz : ordV r.v q.v ≠ 0 := fun x => hs ((ord_zero (okR_v h) (okR_v h')).1 x)
  have ht := ordV_turn r.v q.v
  have hw : winX q r = winX r q := by
    unfold winX
    by_cases h1 : 0 < ordV r.v q.v
    · rw [if_pos h1, if_neg (by omega)]
    · rw [if_neg h1, if_pos (by omega)]
  unfold setX
  rw [hw, merge_swap (okR_v h) (okR_v h')]
theorem sameR_self (r : Rcd) : sameR r r = true := by simp [sameR, sameP]
theorem sameP_self (s l : Int) (ds : List Dg) : sameP s l s l ds ds = true := by simp [sameP]
end Go.Proofs.YtndekohimfjdeaaDoor

namespace Go.Proofs.YtndekohimfjdeaaDoor
open Go.RowKit Go.Shelf
/-- The first one that may not be. -/
def badR : List Rcd → Nat
  | [] => 0
  | r :: l => if okR r ≠ 0 then okR r else badR l
/-- Which of the first ones wins. -/
def bestR (l : List Rcd) : Nat → Nat
  | 0 => 0
  | i + 1 => if 0 < ordV ((l[i]?).getD zeroR).v ((l[bestR l i]?).getD zeroR).v then i else bestR l i
def pathsR (l : List Rcd) : Bool := l.all fun r => decide (r.path = ((l[0]?).getD zeroR).path)
/-- Which of many wins. -/
def ofR (l : List Rcd) : Nat × Nat := if l.length = 0 then (0, 2) else if badR l ≠ 0 then (0, badR l) else if pathsR l then (bestR l l.length, 0) else (0, 2)
theorem best_lt (l : List Rcd) (h : 0 < l.length) : ∀ i, i ≤ l.length → bestR l i < l.length
  | 0, _ => h
  | i + 1, hi => by
    unfold bestR
    split
    · omega
    · exact best_lt l h i (by omega)
theorem bad_step {l : List Rcd} {k : Nat} {r : Rcd} (h : l[k]? = some r) : badR (l.drop k) = if okR r ≠ 0 then okR r else badR (l.drop (k + 1)) := by
  obtain ⟨hk, e⟩ := List.getElem?_eq_some_iff.1 h
  rw [List.drop_eq_getElem_cons hk, e]
  rfl
set_option maxRecDepth 100000 in
set_option maxHeartbeats 16000000 in
theorem of_v' (l : List (Rcd × RSh)) (A : Option Addr) (n c B : Nat) (w : World) (he : EnvM w) (hr : RRows w B A n l) (hB : B ≤ w.heap.size) (hn : n ≤ 1000000) :
    Calls Tryd.prog 19 #[.slice A n c] w fun e w' => e = .returned (.tuple #[.int .i64 ((ofR (l.map Prod.fst)).1 : Int), .int .i64 ((ofR (l.map Prod.fst)).2 : Int)]) ∧ Below w.heap.size w w' := by
  have HI := Lib.hid (show (Tryd.prog.info? 27).map (·.size) = some 7 by kernel_rfl)
  have HR := Lib.hid hr
  have HE := Lib.hid he
  have HLN := Lib.hid hr.len
  obtain ⟨o, ho⟩ : ∃ o, ofR (l.map Prod.fst) = o := ⟨_, rfl⟩
  rw [ho]
  unfold ofR at ho
  have HO := Lib.hid ho
  clear hr he ho
  go_enter Tryd.func19, Tryd.ntmps19
  by_cases h0 : n = 0
  · subst h0
    obtain rfl := if_p HO.out (by rw [List.length_map, HLN.out])
    go_wp2
    go_ret2
    exact ⟨rfl, Below.refl _ _⟩
  have dn : ((n : Int) == 0) = false := by rw [beq_eq_false_iff_ne]; omega
  replace HO := Lib.hid (if_n HO.out (by rw [List.length_map, HLN.out]; exact h0))
  go_upto_region 4 with fail
  go_loopw [15] (fun i wr => ∃ k : Nat, k ≤ n ∧ i = .int .i64 (k : Int) ∧ badR (l.map Prod.fst) = badR ((l.map Prod.fst).drop k) ∧ Below w.heap.size w wr) (fun i _ => n - (intOf i).toNat)
  case atStart => exact ⟨0, Nat.zero_le _, rfl, by rw [List.drop_zero], Below.refl _ _⟩
  case round =>
    obtain ⟨k, hk, rfl, hbad, hb⟩ := hrel
    have HBD := Lib.hid hbad
    clear hbad
    have k0 : (0 : Int) ≤ (k : Int) := by omega
    by_cases hlt : k < n
    · obtain ⟨ad, x, rfl, hx, hx2, hc⟩ := HR.out.at_ hlt
      have HX := Lib.hid (show (l.map Prod.fst)[k]? = some x.1 by rw [List.getElem?_map, hx]; rfl)
      have HC := Lib.hid (hc wr (hb.mono hB))
      have b1 := Lib.hid (hb.alloc hb.size (.cells #[.string (st x.1.path), .slice x.2.A x.2.n x.2.c, .int .i64 x.1.dev, .bool x.1.gone, .int .i64 x.1.size, .int .i64 x.1.len, .slice x.2.D x.2.m x.2.k] 27))
      have HX2 := Lib.hid ((hx2.below (b1.out.mono hB)))
      clear hx hc hx2
      go_wp2_with (first
        | (refine wpList_load_slot rfl 27 (.tmp 17) rfl (ad.add (k * 7)) rfl [.string (st x.1.path), .slice x.2.A x.2.n x.2.c, .int .i64 x.1.dev, .bool x.1.gone, .int .i64 x.1.size, .int .i64 x.1.len, .slice x.2.D x.2.m x.2.k] _ HC.out Tryd.underlying27 rfl HI.out ?_)
        | fail)
      refine (recCheck_v x.1 x.2 B _ (HE.out.below b1.out) HX2.out (Nat.le_trans hB b1.out.size)).mono ?_
      rintro e w4 ⟨rfl, b4⟩
      have E2 := Lib.hid (b1.out.trans (b4.mono b1.out.size))
      clear b4 b1 hb
      by_cases h3 : okR x.1 = 0
      · have d3 : ((okR x.1 : Int) != 0) = false := by rw [bne_eq_false_iff_eq]; omega
        have H3 := Lib.hid (show badR (l.map Prod.fst) = badR ((l.map Prod.fst).drop (k + 1)) by rw [HBD.out, bad_step HX.out, if_neg (by omega)])
        clear h3
        go_wp2
        go_roundw
        case rel => exact ⟨k + 1, hlt, by go_num, H3.out, E2.out⟩
        case measure => simp [intOf]; omega
      · have d3 : ((okR x.1 : Int) != 0) = true := by rw [bne_iff_ne]; omega
        have H3 : badR (l.map Prod.fst) = okR x.1 := by rw [HBD.out, bad_step HX.out, if_pos h3]
        obtain rfl := if_p HO.out (by rw [H3]; exact h3)
        have H4 := Lib.hid H3
        clear h3 H3
        go_wp2
        go_ret2
        exact ⟨by rw [H4.out]; rfl, E2.out⟩
    · obtain rfl : k = n := by omega
      have hb0 : badR (l.map Prod.fst) = 0 := by
        rw [HBD.out, List.drop_of_length_le (by rw [List.length_map, HLN.out]; exact Nat.le_refl _)]
        rfl
      replace HO := Lib.hid (if_n HO.out (fun h => h hb0))
      clear hb0 hlt HBD
      have E0 := Lib.hid hb
      clear hb
      go_upto_region 12 with fail
      go_loopw [7, 27] (fun bs i wr => ∃ j : Nat, j ≤ k ∧ i = .int .i64 (j : Int) ∧ bs = .int .i64 (bestR (l.map Prod.fst) j : Int) ∧ (((l.map Prod.fst).take j).all fun r => decide (r.path = (((l.map Prod.fst)[0]?).getD zeroR).path)) = true ∧ Below w.heap.size w wr) (fun _ i _ => k - (intOf i).toNat)
      case atStart => exact ⟨0, Nat.zero_le _, rfl, rfl, rfl, E0.out⟩
      case round =>
        obtain ⟨j, hj, rfl, rfl, hal, hb⟩ := hrel
        have HA := Lib.hid hal
        clear hal
        have j0 : (0 : Int) ≤ (j : Int) := by omega
        by_cases hlt : j < k
        · obtain ⟨ad, x, rfl, hx, hx2, hc⟩ := HR.out.at_ hlt
          obtain ⟨ad', x0, hA', hx0, hx02, hc0⟩ := HR.out.at_ (show 0 < k by omega)
          obtain rfl := Option.some.inj hA'
          have hbl := best_lt (l.map Prod.fst) (by rw [List.length_map, HLN.out]; omega) j (by rw [List.length_map, HLN.out]; omega)
          rw [List.length_map, HLN.out] at hbl
          obtain ⟨ad', xb, hA'', hxb, hxb2, hcb⟩ := HR.out.at_ hbl
          obtain rfl := Option.some.inj hA''
          have HX := Lib.hid (show (l.map Prod.fst)[j]? = some x.1 by rw [List.getElem?_map, hx]; rfl)
          have HXB := Lib.hid (show (l.map Prod.fst)[bestR (l.map Prod.fst) j]? = some xb.1 by rw [List.getElem?_map, hxb]; rfl)
          have HX0 := Lib.hid (show (((l.map Prod.fst)[0]?).getD zeroR) = x0.1 by rw [List.getElem?_map, hx0]; rfl)
          have HBR := Lib.hid (show bestR (l.map Prod.fst) (j + 1) = if 0 < ordV x.1.v xb.1.v then j else bestR (l.map Prod.fst) j by rw [bestR, HX.out, HXB.out]; rfl)
          have HBL := Lib.hid hbl
          have b1 := Lib.hid (hb.alloc hb.size (.cells #[.string (st x.1.path), .slice x.2.A x.2.n x.2.c, .int .i64 x.1.dev, .bool x.1.gone, .int .i64 x.1.size, .int .i64 x.1.len, .slice x.2.D x.2.m x.2.k] 27))
          have bb := (Below.refl wr.heap.size wr).alloc (Nat.le_refl _) (.cells #[.string (st x.1.path), .slice x.2.A x.2.n x.2.c, .int .i64 x.1.dev, .bool x.1.gone, .int .i64 x.1.size, .int .i64 x.1.len, .slice x.2.D x.2.m x.2.k] 27)
          have HC := Lib.hid (hc wr (hb.mono hB))
          have PO := Lib.hid (heap_alloc_new wr (.cells #[.string (st x.1.path), .slice x.2.A x.2.n x.2.c, .int .i64 x.1.dev, .bool x.1.gone, .int .i64 x.1.size, .int .i64 x.1.len, .slice x.2.D x.2.m x.2.k] 27))
          have p0 : (wr.alloc (.cells #[.string (st x.1.path), .slice x.2.A x.2.n x.2.c, .int .i64 x.1.dev, .bool x.1.gone, .int .i64 x.1.size, .int .i64 x.1.len, .slice x.2.D x.2.m x.2.k] 27)).cell? ⟨wr.heap.size, 0, none⟩ = some (.string (st x.1.path)) := by rw [cell_of_row _ _ 0 _ _ _ PO.out]; rfl
          have p1 : (wr.alloc (.cells #[.string (st x.1.path), .slice x.2.A x.2.n x.2.c, .int .i64 x.1.dev, .bool x.1.gone, .int .i64 x.1.size, .int .i64 x.1.len, .slice x.2.D x.2.m x.2.k] 27)).cell? ad = some (.string (st x0.1.path)) := by
            have := hc0 _ (b1.out.mono hB) 0 _ rfl
            rwa [add_zero, show 0 * 7 = 0 from rfl, add_zero] at this
          have HCB := Lib.hid (hcb _ (b1.out.mono hB))
          have HX2 := Lib.hid ((hx2.below (b1.out.mono hB)).more (Nat.le_trans hB b1.out.size))
          have HXB2 := Lib.hid ((hxb2.below (b1.out.mono hB)).more (Nat.le_trans hB b1.out.size))
          clear hc hc0 hcb hx hx0 hxb hx2 hx02 hxb2 hA' hA'' hb bb
          go_upto_region 14 with (first
            | (refine wpList_load_slot rfl 27 (.tmp 30) rfl (ad.add (j * 7)) rfl [.string (st x.1.path), .slice x.2.A x.2.n x.2.c, .int .i64 x.1.dev, .bool x.1.gone, .int .i64 x.1.size, .int .i64 x.1.len, .slice x.2.D x.2.m x.2.k] _ HC.out Tryd.underlying27 rfl HI.out ?_)
            | fail)
          have dp := st_beq x.1.path x0.1.path
          clear HC
          generalize wr.alloc (.cells #[.string (st x.1.path), .slice x.2.A x.2.n x.2.c, .int .i64 x.1.dev, .bool x.1.gone, .int .i64 x.1.size, .int .i64 x.1.len, .slice x.2.D x.2.m x.2.k] 27) = w1 at *
          generalize wr.heap.size = go at *
          by_cases hp : x.1.path = x0.1.path
          case neg =>
            rw [decide_eq_false hp] at dp
            have HPN := Lib.hid hp
            clear hp
            have hpf : pathsR (l.map Prod.fst) = false := all_not HX.out (decide_eq_false (by rw [HX0.out]; exact HPN.out))
            obtain rfl := if_n HO.out (by rw [hpf]; decide)
            clear hpf
            go_quiet (fail)
            go_wp2
            go_ret2
            exact ⟨rfl, below_drewN b1.out _⟩
          rw [decide_eq_true hp] at dp
          have HAN := Lib.hid (all_step HA.out HX.out (decide_eq_true (show x.1.path = (((l.map Prod.fst)[0]?).getD zeroR).path by rw [HX0.out]; exact hp)))
          clear hp
          go_quiet (fail)
          clear p0 p1 dp
          go_upto_region 16 with fail
          have j1 : (0 : Int) ≤ (bestR (l.map Prod.fst) j : Int) := by omega
          have j2 : (bestR (l.map Prod.fst) j : Int) < (k : Int) := by have := HBL.out; omega
          refine wp_region_text [(0, false), (1, false), (2, false), (3, false), (4, false), (5, false), (6, false), (7, true)] (fun V => V.heap[go]? = some (.cells #[.string (st x.1.path), .slice x.2.A x.2.n x.2.c, .int .i64 x.1.dev, .bool x.1.gone, .int .i64 x.1.size, .int .i64 x.1.len, .slice x.2.D x.2.m x.2.k] 27 (0, 0)) ∧ ∀ j' u, (rcC xb)[j']? = some u → V.cell? ((ad.add (bestR (l.map Prod.fst) j * 7)).add j') = some u) (by kernel_rfl) (by kernel_rfl) (by kernel_rfl) (by kernel_rfl) (by kernel_rfl) (fun _ => ?_)
          simp only [outOf, List.getElem?_cons_zero, List.getElem?_cons_succ, Option.getD_some]
          have hS : (w1.drewN nq).drew.heap[go]? = some (.cells #[.string (st x.1.path), .slice x.2.A x.2.n x.2.c, .int .i64 x.1.dev, .bool x.1.gone, .int .i64 x.1.size, .int .i64 x.1.len, .slice x.2.D x.2.m x.2.k] 27 (0, 0)) ∧ ∀ j' u, (rcC xb)[j']? = some u → (w1.drewN nq).drew.cell? ((ad.add (bestR (l.map Prod.fst) j * 7)).add j') = some u := ⟨PO.out, HCB.out⟩
          have T2 := Lib.hid (below_drewN b1.out nq).drew
          have R1 := Lib.hid (show RReads (w1.drewN nq).drew (w1.drewN nq).drew.heap.size x.1 x.2 from ⟨HX2.out.cs, HX2.out.dg, HX2.out.hn, HX2.out.hm, HX2.out.ft⟩)
          have R2 := Lib.hid (show RReads (w1.drewN nq).drew (w1.drewN nq).drew.heap.size xb.1 xb.2 from ⟨HXB2.out.cs, HXB2.out.dg, HXB2.out.hn, HXB2.out.hm, HXB2.out.ft⟩)
          generalize (w1.drewN nq).drew = w3 at *
          refine TW.val2 (v := .agg #[.string (st x.1.path), .slice x.2.A x.2.n x.2.c, .int .i64 x.1.dev, .bool x.1.gone, .int .i64 x.1.size, .int .i64 x.1.len, .slice x.2.D x.2.m x.2.k]) ?_ ?_ ?_ ?_ ?_
          (focus rfl)
          (focus exact fun V hV => exec_load_slot 27 (.tmp 9) rfl ⟨go, 0, none⟩ rfl [.string (st x.1.path), .slice x.2.A x.2.n x.2.c, .int .i64 x.1.dev, .bool x.1.gone, .int .i64 x.1.size, .int .i64 x.1.len, .slice x.2.D x.2.m x.2.k] _ (rcells_at hV.1 arr_at) Tryd.underlying27 rfl HI.out)
          (focus exact fun _ _ _ h => h)
          (focus exact hS)
          simp only [Act.put, List.setIfInBounds_toArray, List.set_cons_zero, List.set_cons_succ]
          iterate 4 ((first | (refine TW.val2 (v := ?_) ?_ ?_ ?_ ?_ ?_; rotate_left; (focus rfl); (focus (intro W hSW; (try dsimp only at hSW); (try (obtain ⟨hS1, hSW⟩ := hSW)); (try (obtain ⟨hS2, hSW⟩ := hSW)); (try (obtain ⟨hS3, hSW⟩ := hSW)); (try (obtain ⟨hS4, hSW⟩ := hSW)); (try (obtain ⟨hS5, hSW⟩ := hSW)); (try (obtain ⟨hS6, hSW⟩ := hSW)); (try (obtain ⟨hS7, hSW⟩ := hSW)); (try (obtain ⟨hS8, hSW⟩ := hSW)); go_simp; (try with_reducible rfl); done)); (focus exact fun _ _ _ h => h); (focus assumption)) | (refine TW.skip (e := false) ?_ ?_ ?_ ?_; (focus rfl); (focus exact fun _ _ _ h => h); (focus assumption))); simp only [Act.put, List.setIfInBounds_toArray, List.set_cons_zero, List.set_cons_succ])
          refine TW.val2 (v := .agg #[.string (st xb.1.path), .slice xb.2.A xb.2.n xb.2.c, .int .i64 xb.1.dev, .bool xb.1.gone, .int .i64 xb.1.size, .int .i64 xb.1.len, .slice xb.2.D xb.2.m xb.2.k]) ?_ ?_ ?_ ?_ ?_
          (focus rfl)
          (focus exact fun V hV => exec_load_slot 27 (.tmp 43) rfl (ad.add (bestR (l.map Prod.fst) j * 7)) rfl [.string (st xb.1.path), .slice xb.2.A xb.2.n xb.2.c, .int .i64 xb.1.dev, .bool xb.1.gone, .int .i64 xb.1.size, .int .i64 xb.1.len, .slice xb.2.D xb.2.m xb.2.k] _ hV.2 Tryd.underlying27 rfl HI.out)
          (focus exact fun _ _ _ h => h)
          (focus exact hS)
          simp only [Act.put, List.setIfInBounds_toArray, List.set_cons_zero, List.set_cons_succ]
          iterate 1 ((first | (refine TW.val2 (v := ?_) ?_ ?_ ?_ ?_ ?_; rotate_left; (focus rfl); (focus (intro W hSW; (try dsimp only at hSW); (try (obtain ⟨hS1, hSW⟩ := hSW)); (try (obtain ⟨hS2, hSW⟩ := hSW)); (try (obtain ⟨hS3, hSW⟩ := hSW)); (try (obtain ⟨hS4, hSW⟩ := hSW)); (try (obtain ⟨hS5, hSW⟩ := hSW)); (try (obtain ⟨hS6, hSW⟩ := hSW)); (try (obtain ⟨hS7, hSW⟩ := hSW)); (try (obtain ⟨hS8, hSW⟩ := hSW)); go_simp; (try with_reducible rfl); done)); (focus exact fun _ _ _ h => h); (focus assumption)) | (refine TW.skip (e := false) ?_ ?_ ?_ ?_; (focus rfl); (focus exact fun _ _ _ h => h); (focus assumption))); simp only [Act.put, List.setIfInBounds_toArray, List.set_cons_zero, List.set_cons_succ])
          refine TW.eff (by rfl) (fun K hK => ?_); go_simp
          refine (beats_v x.1 xb.1 x.2 xb.2 w3.heap.size w3 R1.out R2.out (Nat.le_refl _)).mono ?_
          rintro e w4 ⟨rfl, b4⟩
          have hS2 : w4.heap[go]? = some (.cells #[.string (st x.1.path), .slice x.2.A x.2.n x.2.c, .int .i64 x.1.dev, .bool x.1.gone, .int .i64 x.1.size, .int .i64 x.1.len, .slice x.2.D x.2.m x.2.k] 27 (0, 0)) ∧ ∀ j' u, (rcC xb)[j']? = some u → w4.cell? ((ad.add (bestR (l.map Prod.fst) j * 7)).add j') = some u := ⟨hstep hS.1 b4, fun j' u hu => (b4.cell (World.block_lt_of_cell? w3 _ (hS.2 j' u hu))).trans (hS.2 j' u hu)⟩
          have E2 := Lib.hid (T2.out.trans (b4.mono T2.out.size))
          clear hS b4
          refine hK.out _ _ hS2 ?_
          clear hK hS2
          (try simp only [Act.put, List.setIfInBounds_toArray, List.set_cons_zero, List.set_cons_succ])
          refine TW.done ?_
          by_cases h5 : 0 < ordV x.1.v xb.1.v
          · rw [if_pos h5] at HBR
            rw [decide_eq_true h5]
            clear h5
            go_wp2
            go_roundw
            case rel => exact ⟨j + 1, hlt, by go_num, by rw [HBR.out], HAN.out, E2.out⟩
            case measure => simp [intOf]; omega
          · rw [if_neg h5] at HBR
            rw [decide_eq_false h5]
            clear h5
            go_wp2
            go_roundw
            case rel => exact ⟨j + 1, hlt, by go_num, by rw [HBR.out], HAN.out, E2.out⟩
            case measure => simp [intOf]; omega
        · obtain rfl : j = k := by omega
          have hpt : pathsR (l.map Prod.fst) = true := by
            have := HA.out
            rwa [List.take_of_length_le (by rw [List.length_map, HLN.out]; exact Nat.le_refl _)] at this
          have h1 := if_p HO.out hpt
          rw [List.length_map, HLN.out] at h1
          obtain rfl := h1
          have EB := Lib.hid hb
          clear hpt hb
          go_wp2
          go_ret2
          exact ⟨rfl, EB.out⟩
end Go.Proofs.YtndekohimfjdeaaDoor

namespace Go.Proofs.YtndekohimfjdeaaDoor
section
variable {P : Program} {ops : Array Oper} {Q : Exit → Act → World → Prop} {S : World → Prop} {n : Nat} {listed : Array Bool} {a : Act} {w : World}
/-- From here on: n operations are left, 'listed' tells which came up. -/
def TA (P : Program) (ops : Array Oper) (Q : Exit → Act → World → Prop) (S : World → Prop) (n : Nat) (listed : Array Bool) (a : Act) (w : World) : Prop := wpAnyH P .any ops Q S n listed a w
/-- Number i comes up next; it may change the world. -/
def TAE (P : Program) (ops : Array Oper) (Q : Exit → Act → World → Prop) (S : World → Prop) (n : Nat) (listed : Array Bool) (a : Act) (w : World) (i : Nat) : Prop :=
  ∃ o, ops[i]? = some o ∧ Region.wanted o (yielded ops a.tmps) = true ∧ ∀ K : Act → World → Prop, RowKit.Hid (∀ a' w', S w' → TA P ops Q S n (listed.setIfInBounds i true) a' w' → K a' w') → Oper.wp P o a w K Q
theorem TA.all (rs : List Nat) (hr : Region.ready .any ops listed = rs) (hne : rs ≠ []) (h : ∀ i ∈ rs, TAE P ops Q S n listed a w i) : TA P ops Q S (n + 1) listed a w := by
  refine wpAnyH_all hr hne fun i hi => ?_
  obtain ⟨o, ho, hw, hk⟩ := h i hi
  unfold wpOp
  simp only [ho, hw, if_true]
  exact .inl (hk _ fun a' w' hS' hT => ⟨hS', hT⟩)
theorem TA.all1 (i : Nat) (hr : Region.ready .any ops listed = [i]) (h : TAE P ops Q S n listed a w i) : TA P ops Q S (n + 1) listed a w := TA.all [i] hr (by simp) fun j hj => by
  obtain rfl : j = i := by simpa using hj
  exact h
theorem TA.all2 (i j : Nat) (hr : Region.ready .any ops listed = [i, j]) (h : TAE P ops Q S n listed a w i) (h' : TAE P ops Q S n listed a w j) : TA P ops Q S (n + 1) listed a w := TA.all [i, j] hr (by simp) fun x hx => by
  rcases (show x = i ∨ x = j by simpa using hx) with rfl | rfl
  · exact h
  · exact h'
theorem TA.all3 (i j k : Nat) (hr : Region.ready .any ops listed = [i, j, k]) (h : TAE P ops Q S n listed a w i) (h' : TAE P ops Q S n listed a w j) (h'' : TAE P ops Q S n listed a w k) : TA P ops Q S (n + 1) listed a w := TA.all [i, j, k] hr (by simp) fun x hx => by
  rcases (show x = i ∨ x = j ∨ x = k by simpa using hx) with rfl | rfl | rfl
  · exact h
  · exact h'
  · exact h''
theorem TA.all4 (i j k l : Nat) (hr : Region.ready .any ops listed = [i, j, k, l]) (h : TAE P ops Q S n listed a w i) (h' : TAE P ops Q S n listed a w j) (h'' : TAE P ops Q S n listed a w k) (h3 : TAE P ops Q S n listed a w l) : TA P ops Q S (n + 1) listed a w := TA.all [i, j, k, l] hr (by simp) fun x hx => by
  rcases (show x = i ∨ x = j ∨ x = k ∨ x = l by simpa using hx) with rfl | rfl | rfl | rfl
  · exact h
  · exact h'
  · exact h''
  · exact h3
/-- An operation that only reads is taken first. -/
theorem TA.val2 {v : Value} (i : Nat) (o : Oper) (ho : ops[i]? = some o) (hn : Region.noSelect ops = true) (hf : (Region.free .any ops listed i && (Region.ready .any ops listed).contains i) = true) (hw : Region.wanted o (yielded ops a.tmps) = true)
    (hy : ∀ w, S w → (execOp a.eval o).run P w = .ok (.value v) w) (hQ : ∀ c a w, Q (.panic c) (a.put o.dst v) w → Q (.panic c) a w) (hS : S w) (h : TA P ops Q S n (listed.setIfInBounds i true) (a.put o.dst v) w) : TA P ops Q S (n + 1) listed a w := by
  rw [Bool.and_eq_true] at hf
  exact wpAnyH_take ho hn hf.1 hf.2 hQ (.inl ⟨hw, hy⟩) hS h
/-- From here on along a tree. -/
theorem TA.tree (t : SK) (hn : Region.noSelect ops = true) (hl : t.len = n) (hok : t.ok ops listed = true) (h : TR P ops Q S t a w) : TA P ops Q S n listed a w := by
  subst hl
  exact h listed hn hok
/-- A state that is reached in several ways is shown once. -/
theorem TA.share {X : Type} (J : X → Prop) (m : Nat) (listed' : Array Bool) (A : X → Act) (W : X → World) (h : ∀ x, J x → TA P ops Q S m listed' (A x) (W x)) (k : RowKit.Hid (∀ x, J x → TA P ops Q S m listed' (A x) (W x)) → TA P ops Q S n listed a w) : TA P ops Q S n listed a w := k h
/-- The beginning. -/
theorem wp_region_ta {id : Nat} {ol : List Oper} {a : Act} {w : World} (S : World → Prop) (m : Nat) (listed : Array Bool) (hm : P.follows .mixedOrders = true) (hl : ol.length = m) (hi : Array.replicate ol.length false = listed) (h : TA P ol.toArray Q S m listed a w.drew) : (Code.region id ol.toArray true).wp P Q a w := by
  refine wp_region_held (S := S) hm ?_
  subst hl
  subst hi
  exact h
end
end Go.Proofs.YtndekohimfjdeaaDoor

namespace Go.Proofs.YtndekohimfjdeaaDoor
open Go.RowKit Go.Shelf
theorem setRow_ne {w : World} {B size n g : Nat} {A : Option Addr} {xs : List Value} {cs : Array Value} (h : Reads w B size A n xs) (hne : ∀ ad, A = some ad → 0 < n → ad.block ≠ g) : Reads (w.setRow g cs) B size A n xs := by
  refine ⟨h.1, fun hn => ?_⟩
  obtain ⟨ad, e, hb, hc⟩ := h.2 hn
  exact ⟨ad, e, hb, fun j u hu => (World.cell?_of_block (setRow_other _ _ _ _ (by rw [block_of_add]; exact hne ad e hn))).trans (hc j u hu)⟩
theorem ne_top {w : World} {r : Rcd} {x : RSh} (h : RReads w w.heap.size r x) : (∀ ad, x.A = some ad → 0 < x.n → ad.block ≠ w.heap.size) ∧ (∀ ad, x.D = some ad → 0 < x.m → ad.block ≠ w.heap.size) := by
  refine ⟨fun ad e hn => ?_, fun ad e hn => ?_⟩
  · obtain ⟨ad', e', hb, _⟩ := h.cs.2 hn
    rw [e] at e'
    injection e' with e'
    subst e'
    omega
  · obtain ⟨ad', e', hb, _⟩ := h.dg.2 hn
    rw [e] at e'
    injection e' with e'
    subst e'
    omega
theorem ne_lo {g z : Nat} {x : RSh} (hg : g < z) (h1 : ∀ ad, x.A = some ad → z ≤ ad.block) (h2 : ∀ ad, x.D = some ad → z ≤ ad.block) : (∀ ad, x.A = some ad → 0 < x.n → ad.block ≠ g) ∧ (∀ ad, x.D = some ad → 0 < x.m → ad.block ≠ g) :=
  ⟨fun ad e _ => by have := h1 ad e; omega, fun ad e _ => by have := h2 ad e; omega⟩
/-- The record that is gone. -/
def rcG : Rcd := ⟨[102], [(2, 2)], 2, true, 0, 0, []⟩
theorem rcG_reads {W : World} {base c : Nat} {A : Option Addr} (h : COwn W base A 1 c [(2, 2)]) : RReads W W.heap.size rcG ⟨A, 1, c, none, 0, 0⟩ :=
  ⟨h.reads, Reads.none_, by dsimp only; omega, Nat.zero_le _, fit1 2 2 2 (by omega)⟩
theorem exG : twoE (rcF 1 7 [(1, 1)]) rcG = 0 ∧ (setX (rcF 1 7 [(1, 1)]) rcG).gone = true ∧ (setX (rcF 1 7 [(1, 1)]) rcG).v = [(1, 1), (2, 2)] ∧ okR (rcF 1 7 [(1, 1)]) = 0 := by refine ⟨?_, ?_, ?_, ?_⟩ <;> kernel_rfl
theorem exD1 : winR (rcF 1 7 [(1, 1)]) rcG = (1, 0) ∧ doR (rcF 1 7 [(1, 1)]) rcG = (3, 0) := by constructor <;> kernel_rfl
theorem exD2 : winR (rcF 1 7 [(1, 1)]) (rcF 2 7 [(2, 2)]) = (1, 0) ∧ doR (rcF 1 7 [(1, 1)]) (rcF 2 7 [(2, 2)]) = (2, 0) := by constructor <;> kernel_rfl
/-- The first copy's path. -/
def tkN (s : Bl) : Bool := decide (s = [102, 46, 99, 49, 45, 48])
theorem exP : placeF tkN [102] 1 (List.range 1000) = ([102, 46, 99, 49, 45, 49], 0) := by kernel_rfl
set_option maxRecDepth 100000 in
theorem tk_v (s : Bl) (W : World) : Calls Tryd.prog 26 (#[.string (st s)] ++ #[]) W fun e W' => e = .returned (.bool (tkN s)) ∧ Below W.heap.size W W' := by
  have dp : ((st s).toList == [102, 46, 99, 49, 45, 48]) = tkN s := by
    rw [ByteArray.toList_eq]
    unfold tkN st
    rw [Bool.eq_iff_iff]
    simp
  show Calls Tryd.prog 26 #[.string (st s)] W _
  go_enter Tryd.func26, Tryd.ntmps26
  go_wp2
  go_ret
  exact ⟨rfl, Below.refl _ _⟩
set_option maxRecDepth 100000 in
set_option maxHeartbeats 16000000 in
theorem names_v (w : World) (he : Env w) : Calls Tryd.prog 6 #[] w fun e w' => e = .returned (.bool true) ∧ Below w.heap.size w w' := by
  have HI := Lib.hid (show (Tryd.prog.info? 27).map (·.size) = some 7 by kernel_rfl)
  have HE0 := Lib.hid he
  clear he
  go_enter Tryd.func6, Tryd.ntmps6
  go_wp2_with fail
  refine (kat_v 1 1 w).mono ?_
  rintro e w1 ⟨rfl, b1⟩
  have C1 := Lib.hid (clit w1 [(1, 1)] #[.int .i64 1, .int .u64 1] 49 rfl)
  have B1 := Lib.hid (b1.alloc b1.size (.cells #[.int .i64 1, .int .u64 1] 49))
  have hz1 : (w1.alloc (.cells #[.int .i64 1, .int .u64 1] 49)).heap.size = w1.heap.size + 1 := by simp
  clear b1
  go_wp2_with fail
  generalize w1.alloc (.cells #[.int .i64 1, .int .u64 1] 49) = w2 at *
  refine (filled_v [102] 1 7 (some ⟨w1.heap.size, 0, none⟩) 1 1 (w1.heap.size + 1) [(1, 1)] w2 C1.out (by omega) (by omega)).mono ?_
  rintro e w3 ⟨A1, c1, D1, rfl, ho, hd, b3⟩
  have RA0 := Lib.hid (rcF_reads (dv := 1) ho hd (by omega) (fit1 1 1 1 (by omega)))
  have B3 := Lib.hid (B1.out.trans (b3.mono B1.out.size))
  have X0 := heap_alloc_new w3 (.cells #[.string (st [102]), .slice A1 1 c1, .int .i64 1, .bool false, .int .i64 4, .int .i64 3, .slice D1 1 1] 27)
  have RA := Lib.hid (RA0.out.step ((Below.refl w3.heap.size w3).alloc (Nat.le_refl _) (.cells #[.string (st [102]), .slice A1 1 c1, .int .i64 1, .bool false, .int .i64 4, .int .i64 3, .slice D1 1 1] 27)))
  have BA := Lib.hid (B3.out.alloc B3.out.size (.cells #[.string (st [102]), .slice A1 1 c1, .int .i64 1, .bool false, .int .i64 4, .int .i64 3, .slice D1 1 1] 27))
  have HE := Lib.hid (HE0.out.below BA.out)
  clear ho hd b3 C1 B1 hz1 RA0 B3 HE0
  go_upto_region 3 with fail
  generalize w3.alloc (.cells #[.string (st [102]), .slice A1 1 c1, .int .i64 1, .bool false, .int .i64 4, .int .i64 3, .slice D1 1 1] 27) = w4 at *
  generalize w3.heap.size = ga at *
  have SET := Lib.hid (setR_ok exG.1)
  generalize hx0 : setX (rcF 1 7 [(1, 1)]) rcG = x0 at *
  have HX0 := Lib.hid hx0
  clear hx0
  have RA4 := RA
  have HE4 := HE
  have hga := (Array.getElem?_eq_some_iff.1 X0).1
  go_cut [3, 4] from 15 to 23 (fun p e wx => ∃ (gs : Nat) (xs : RSh), p = .pointer (some ⟨gs, 0, none⟩) ∧ e = .int .i64 0 ∧ wx.heap[gs]? = some (.cells #[.string (st x0.path), .slice xs.A xs.n xs.c, .int .i64 x0.dev, .bool x0.gone, .int .i64 x0.size, .int .i64 x0.len, .slice xs.D xs.m xs.k] 27 (0, 0)) ∧ RReads wx wx.heap.size x0 xs ∧ wx.heap[ga]? = some (.cells #[.string (st [102]), .slice A1 1 c1, .int .i64 1, .bool false, .int .i64 4, .int .i64 3, .slice D1 1 1] 27 (0, 0)) ∧ RReads wx wx.heap.size (rcF 1 7 [(1, 1)]) ⟨A1, 1, c1, D1, 1, 1⟩ ∧ Env wx ∧ Below w4.heap.size w4 wx)
  case first =>
    refine wp_region_ta (fun V => V.heap[ga]? = some (.cells #[.string (st [102]), .slice A1 1 c1, .int .i64 1, .bool false, .int .i64 4, .int .i64 3, .slice D1 1 1] 27 (0, 0))) 12 #[false, false, false, false, false, false, false, false, false, false, false, false] (by kernel_rfl) (by kernel_rfl) (by kernel_rfl) ?_
    have hS : w4.drew.heap[ga]? = some (.cells #[.string (st [102]), .slice A1 1 c1, .int .i64 1, .bool false, .int .i64 4, .int .i64 3, .slice D1 1 1] 27 (0, 0)) := X0
    have T := Lib.hid (show Below w4.heap.size w4 w4.drew from (Below.refl _ _).drew)
    replace RA := Lib.hid (RA.out.step (Below.refl w4.heap.size w4).drew)
    replace HE := Lib.hid (HE.out.below (Below.refl w4.heap.size w4).drew)
    have hz4 := T.out.size
    clear X0 BA
    generalize w4.drew = v0 at *
    refine TA.val2 (v := .agg #[.string (st [102]), .slice A1 1 c1, .int .i64 1, .bool false, .int .i64 4, .int .i64 3, .slice D1 1 1]) 0 _ (by simp only [List.getElem?_toArray, List.getElem?_cons_succ, List.getElem?_cons_zero]; rfl) (by kernel_rfl) (by kernel_rfl) ?_ ?_ ?_ ?_ ?_
    (focus rfl)
    (focus exact fun V hV => exec_load_slot 27 (.tmp 2) rfl ⟨ga, 0, none⟩ rfl [.string (st [102]), .slice A1 1 c1, .int .i64 1, .bool false, .int .i64 4, .int .i64 3, .slice D1 1 1] _ (rcells_at hV arr_at) Tryd.underlying27 rfl HI.out)
    (focus exact fun _ _ _ h => h)
    (focus exact hS)
    simp only [Act.put, List.setIfInBounds_toArray, List.set_cons_zero, List.set_cons_succ]
    refine TA.val2 (v := .func (.func 22) #[] #[]) 1 _ (by simp only [List.getElem?_toArray, List.getElem?_cons_succ, List.getElem?_cons_zero]; rfl) (by kernel_rfl) (by kernel_rfl) ?_ ?_ ?_ ?_ ?_
    (focus rfl)
    (focus exact fun V _ => rfl)
    (focus exact fun _ _ _ h => h)
    (focus exact hS)
    simp only [Act.put, List.setIfInBounds_toArray, List.set_cons_zero, List.set_cons_succ]
    refine TA.all2 2 9 (by kernel_rfl) ?_ ?_
    ·
      refine ⟨_, (by simp only [List.getElem?_toArray, List.getElem?_cons_succ, List.getElem?_cons_zero]; rfl), (by rfl), fun K hK => ?_⟩
      go_simp
      refine (kat_v 2 2 _).mono ?_
      rintro e v1 ⟨rfl, bb⟩
      replace hS := hstep hS bb
      replace T := Lib.hid (T.out.trans (bb.mono T.out.size))
      replace RA := Lib.hid (RA.out.step bb)
      replace HE := Lib.hid (HE.out.below bb)
      (try replace C := Lib.hid (Reads.more (Reads.below C.out bb) bb.size))
      (try replace RG := Lib.hid (RG.out.step bb))
      (try replace HX := Lib.hid (HX.out.step bb))
      (try replace RZ := hstep RZ bb)
      clear bb
      refine hK.out _ _ hS ?_
      clear hK
      simp only [Act.put, List.setIfInBounds_toArray, List.set_cons_zero, List.set_cons_succ]
      refine TA.all2 3 9 (by kernel_rfl) ?_ ?_
      ·
        refine ⟨_, (by simp only [List.getElem?_toArray, List.getElem?_cons_succ, List.getElem?_cons_zero]; rfl), (by rfl), fun K hK => ?_⟩
        go_simp
        have bb := (Below.refl v1.heap.size v1).alloc (Nat.le_refl _) (.cells #[.int .i64 2, .int .u64 2] 49)
        have C0 := Lib.hid (show CReads (v1.alloc (.cells #[.int .i64 2, .int .u64 2] 49)) (v1.alloc (.cells #[.int .i64 2, .int .u64 2] 49)).heap.size (some ⟨v1.heap.size, 0, none⟩) 1 [(2, 2)] from Reads.more (clit v1 [(2, 2)] #[.int .i64 2, .int .u64 2] 49 rfl) (by simp))
        replace hS := hstep hS bb
        replace T := Lib.hid (T.out.trans (bb.mono T.out.size))
        replace RA := Lib.hid (RA.out.step bb)
        replace HE := Lib.hid (HE.out.below bb)
        (try replace C := Lib.hid (Reads.more (Reads.below C.out bb) bb.size))
        (try replace RG := Lib.hid (RG.out.step bb))
        (try replace HX := Lib.hid (HX.out.step bb))
        (try replace RZ := hstep RZ bb)
        clear bb
        refine hK.out _ _ hS ?_
        clear hK
        simp only [Act.put, List.setIfInBounds_toArray, List.set_cons_zero, List.set_cons_succ]
        have C := C0
        clear C0
        generalize v1.alloc (.cells #[.int .i64 2, .int .u64 2] 49) = v2 at *
        generalize v1.heap.size = gb at *
        refine TA.all2 4 9 (by kernel_rfl) ?_ ?_
        ·
          refine ⟨_, (by simp only [List.getElem?_toArray, List.getElem?_cons_succ, List.getElem?_cons_zero]; rfl), (by rfl), fun K hK => ?_⟩
          go_simp
          refine (gone_v [102] 2 (some ⟨gb, 0, none⟩) 1 1 v2.heap.size [(2, 2)] v2 C.out (Nat.le_refl _) (by omega)).mono ?_
          rintro e v3 ⟨A2, c2, rfl, ho, bb⟩
          clear C
          replace hS := hstep hS bb
          replace T := Lib.hid (T.out.trans (bb.mono T.out.size))
          replace RA := Lib.hid (RA.out.step bb)
          replace HE := Lib.hid (HE.out.below bb)
          (try replace C := Lib.hid (Reads.more (Reads.below C.out bb) bb.size))
          (try replace RG := Lib.hid (RG.out.step bb))
          (try replace HX := Lib.hid (HX.out.step bb))
          (try replace RZ := hstep RZ bb)
          clear bb
          have RG := Lib.hid (rcG_reads ho)
          clear ho
          refine hK.out _ _ hS ?_
          clear hK
          simp only [Act.put, List.setIfInBounds_toArray, List.set_cons_zero, List.set_cons_succ]
          refine TA.all2 5 9 (by kernel_rfl) ?_ ?_
          ·
            refine ⟨_, (by simp only [List.getElem?_toArray, List.getElem?_cons_succ, List.getElem?_cons_zero]; rfl), (by rfl), fun K hK => ?_⟩
            go_simp
            have SV := settle_o (rcF 1 7 [(1, 1)]) rcG ⟨A1, 1, c1, D1, 1, 1⟩ ⟨A2, 1, c2, none, 0, 0⟩ v3.heap.size v3 HE.out.m RA.out RG.out (Nat.le_refl _)
            rw [SET.out] at SV
            refine SV.mono ?_
            rintro e v4 ⟨xs, rfl, hx, lo1, lo2, bb⟩
            clear RG
            (try have HNE := ne_lo (Array.getElem?_eq_some_iff.1 RZ).1 lo1 lo2)
            clear lo1 lo2
            replace hS := hstep hS bb
            replace T := Lib.hid (T.out.trans (bb.mono T.out.size))
            replace RA := Lib.hid (RA.out.step bb)
            replace HE := Lib.hid (HE.out.below bb)
            (try replace C := Lib.hid (Reads.more (Reads.below C.out bb) bb.size))
            (try replace RG := Lib.hid (RG.out.step bb))
            (try replace HX := Lib.hid (HX.out.step bb))
            (try replace RZ := hstep RZ bb)
            clear bb
            have HX := Lib.hid hx
            clear hx
            refine hK.out _ _ hS ?_
            clear hK
            simp only [Act.put, List.setIfInBounds_toArray, List.set_cons_zero, List.set_cons_succ]
            refine TA.val2 (v := .tuple #[.agg #[.string (st x0.path), .slice xs.A xs.n xs.c, .int .i64 x0.dev, .bool x0.gone, .int .i64 x0.size, .int .i64 x0.len, .slice xs.D xs.m xs.k], .int .i64 0]) 6 _ (by simp only [List.getElem?_toArray, List.getElem?_cons_succ, List.getElem?_cons_zero]; rfl) (by kernel_rfl) (by kernel_rfl) ?_ ?_ ?_ ?_ ?_
            (focus rfl)
            (focus exact fun V _ => rfl)
            (focus exact fun _ _ _ h => h)
            (focus exact hS)
            simp only [Act.put, List.setIfInBounds_toArray, List.set_cons_zero, List.set_cons_succ]
            refine TA.val2 (v := .agg #[.string (st x0.path), .slice xs.A xs.n xs.c, .int .i64 x0.dev, .bool x0.gone, .int .i64 x0.size, .int .i64 x0.len, .slice xs.D xs.m xs.k]) 7 _ (by simp only [List.getElem?_toArray, List.getElem?_cons_succ, List.getElem?_cons_zero]; rfl) (by kernel_rfl) (by kernel_rfl) ?_ ?_ ?_ ?_ ?_
            (focus rfl)
            (focus exact fun V _ => rfl)
            (focus exact fun _ _ _ h => h)
            (focus exact hS)
            simp only [Act.put, List.setIfInBounds_toArray, List.set_cons_zero, List.set_cons_succ]
            refine TA.val2 (v := .int .i64 0) 8 _ (by simp only [List.getElem?_toArray, List.getElem?_cons_succ, List.getElem?_cons_zero]; rfl) (by kernel_rfl) (by kernel_rfl) ?_ ?_ ?_ ?_ ?_
            (focus rfl)
            (focus exact fun V _ => rfl)
            (focus exact fun _ _ _ h => h)
            (focus exact hS)
            simp only [Act.put, List.setIfInBounds_toArray, List.set_cons_zero, List.set_cons_succ]
            refine TA.all1 9 (by kernel_rfl) ?_
            refine ⟨_, (by simp only [List.getElem?_toArray, List.getElem?_cons_succ, List.getElem?_cons_zero]; rfl), (by rfl), fun K hK => ?_⟩
            go_simp
            have bb := (Below.refl v4.heap.size v4).alloc (Nat.le_refl _) (.cells #[.string ⟨#[]⟩, .slice none 0 0, .int .i64 0, .bool false, .int .i64 0, .int .i64 0, .slice none 0 0] 27)
            have RZ0 := heap_alloc_new v4 (.cells #[.string ⟨#[]⟩, .slice none 0 0, .int .i64 0, .bool false, .int .i64 0, .int .i64 0, .slice none 0 0] 27)
            have hgw0 := T.out.size
            (try have HNE0 := ne_top HX.out)
            replace hS := hstep hS bb
            replace T := Lib.hid (T.out.trans (bb.mono T.out.size))
            replace RA := Lib.hid (RA.out.step bb)
            replace HE := Lib.hid (HE.out.below bb)
            (try replace C := Lib.hid (Reads.more (Reads.below C.out bb) bb.size))
            (try replace RG := Lib.hid (RG.out.step bb))
            (try replace HX := Lib.hid (HX.out.step bb))
            (try replace RZ := hstep RZ bb)
            clear bb
            refine hK.out _ _ hS ?_
            clear hK
            simp only [Act.put, List.setIfInBounds_toArray, List.set_cons_zero, List.set_cons_succ]
            have RZ := RZ0
            have hgw := hgw0
            (try have HNE := HNE0)
            (try clear HNE0)
            clear RZ0 hgw0
            generalize v4.alloc (.cells #[.string ⟨#[]⟩, .slice none 0 0, .int .i64 0, .bool false, .int .i64 0, .int .i64 0, .slice none 0 0] 27) = v5 at *
            generalize v4.heap.size = gw at *
            refine TA.all1 10 (by kernel_rfl) ⟨_, (by simp only [List.getElem?_toArray, List.getElem?_cons_succ, List.getElem?_cons_zero]; rfl), (by rfl), fun K hK => ?_⟩
            refine wp_store_row 27 (.tmp 3) (.tmp 22) rfl gw #[.string (st x0.path), .slice xs.A xs.n xs.c, .int .i64 x0.dev, .bool x0.gone, .int .i64 x0.size, .int .i64 x0.len, .slice xs.D xs.m xs.k] rfl rfl 27 _ RZ HI.out rfl (by simp [Value.oneCell']) ?_
            have XS := Lib.hid (setRow_heap v5 gw _ #[.string (st x0.path), .slice xs.A xs.n xs.c, .int .i64 x0.dev, .bool x0.gone, .int .i64 x0.size, .int .i64 x0.len, .slice xs.D xs.m xs.k] _ _ RZ)
            have TS := Lib.hid (below_setRow T.out hgw #[.string (st x0.path), .slice xs.A xs.n xs.c, .int .i64 x0.dev, .bool x0.gone, .int .i64 x0.size, .int .i64 x0.len, .slice xs.D xs.m xs.k])
            have hgn : ga ≠ gw := by omega
            replace hS : (v5.setRow gw #[.string (st x0.path), .slice xs.A xs.n xs.c, .int .i64 x0.dev, .bool x0.gone, .int .i64 x0.size, .int .i64 x0.len, .slice xs.D xs.m xs.k]).heap[ga]? = some (.cells #[.string (st [102]), .slice A1 1 c1, .int .i64 1, .bool false, .int .i64 4, .int .i64 3, .slice D1 1 1] 27 (0, 0)) := (setRow_other _ _ _ _ hgn).trans hS
            have RF := Lib.hid ((RA4.out.below TS.out).more TS.out.size)
            have HF := Lib.hid (HE4.out.below TS.out)
            have HXF := Lib.hid (show RReads (v5.setRow gw #[.string (st x0.path), .slice xs.A xs.n xs.c, .int .i64 x0.dev, .bool x0.gone, .int .i64 x0.size, .int .i64 x0.len, .slice xs.D xs.m xs.k]) (v5.setRow gw #[.string (st x0.path), .slice xs.A xs.n xs.c, .int .i64 x0.dev, .bool x0.gone, .int .i64 x0.size, .int .i64 x0.len, .slice xs.D xs.m xs.k]).heap.size x0 xs from by
              have hsz : (v5.setRow gw #[.string (st x0.path), .slice xs.A xs.n xs.c, .int .i64 x0.dev, .bool x0.gone, .int .i64 x0.size, .int .i64 x0.len, .slice xs.D xs.m xs.k]).heap.size = v5.heap.size := by simp [World.setRow]
              rw [hsz]
              exact ⟨setRow_ne HX.out.cs HNE.1, setRow_ne HX.out.dg HNE.2, HX.out.hn, HX.out.hm, HX.out.ft⟩)
            refine hK.out _ _ hS ?_
            clear hK
            simp only [Act.put, List.setIfInBounds_toArray, List.set_cons_zero, List.set_cons_succ]
            refine TA.val2 (v := .int .i64 0) 11 _ (by simp only [List.getElem?_toArray, List.getElem?_cons_succ, List.getElem?_cons_zero]; rfl) (by kernel_rfl) (by kernel_rfl) ?_ ?_ ?_ ?_ ?_
            (focus rfl)
            (focus exact fun V _ => rfl)
            (focus exact fun _ _ _ h => h)
            (focus exact hS)
            simp only [Act.put, List.setIfInBounds_toArray, List.set_cons_zero, List.set_cons_succ]
            refine TA.tree SK.done (by kernel_rfl) rfl (by kernel_rfl) ?_
            refine TR.done ?_
            go_wp2_with fail
            go_meet
            exact ⟨gw, xs, rfl, rfl, XS.out, HXF.out, hS, RF.out, HF.out, TS.out⟩
          ·
            refine ⟨_, (by simp only [List.getElem?_toArray, List.getElem?_cons_succ, List.getElem?_cons_zero]; rfl), (by rfl), fun K hK => ?_⟩
            go_simp
            have bb := (Below.refl v3.heap.size v3).alloc (Nat.le_refl _) (.cells #[.string ⟨#[]⟩, .slice none 0 0, .int .i64 0, .bool false, .int .i64 0, .int .i64 0, .slice none 0 0] 27)
            have RZ0 := heap_alloc_new v3 (.cells #[.string ⟨#[]⟩, .slice none 0 0, .int .i64 0, .bool false, .int .i64 0, .int .i64 0, .slice none 0 0] 27)
            have hgw0 := T.out.size
            (try have HNE0 := ne_top HX.out)
            replace hS := hstep hS bb
            replace T := Lib.hid (T.out.trans (bb.mono T.out.size))
            replace RA := Lib.hid (RA.out.step bb)
            replace HE := Lib.hid (HE.out.below bb)
            (try replace C := Lib.hid (Reads.more (Reads.below C.out bb) bb.size))
            (try replace RG := Lib.hid (RG.out.step bb))
            (try replace HX := Lib.hid (HX.out.step bb))
            (try replace RZ := hstep RZ bb)
            clear bb
            refine hK.out _ _ hS ?_
            clear hK
            simp only [Act.put, List.setIfInBounds_toArray, List.set_cons_zero, List.set_cons_succ]
            have RZ := RZ0
            have hgw := hgw0
            (try have HNE := HNE0)
            (try clear HNE0)
            clear RZ0 hgw0
            generalize v3.alloc (.cells #[.string ⟨#[]⟩, .slice none 0 0, .int .i64 0, .bool false, .int .i64 0, .int .i64 0, .slice none 0 0] 27) = v4 at *
            generalize v3.heap.size = gw at *
            refine TA.all1 5 (by kernel_rfl) ?_
            refine ⟨_, (by simp only [List.getElem?_toArray, List.getElem?_cons_succ, List.getElem?_cons_zero]; rfl), (by rfl), fun K hK => ?_⟩
            go_simp
            have SV := settle_o (rcF 1 7 [(1, 1)]) rcG ⟨A1, 1, c1, D1, 1, 1⟩ ⟨A2, 1, c2, none, 0, 0⟩ v4.heap.size v4 HE.out.m RA.out RG.out (Nat.le_refl _)
            rw [SET.out] at SV
            refine SV.mono ?_
            rintro e v5 ⟨xs, rfl, hx, lo1, lo2, bb⟩
            clear RG
            (try have HNE := ne_lo (Array.getElem?_eq_some_iff.1 RZ).1 lo1 lo2)
            clear lo1 lo2
            replace hS := hstep hS bb
            replace T := Lib.hid (T.out.trans (bb.mono T.out.size))
            replace RA := Lib.hid (RA.out.step bb)
            replace HE := Lib.hid (HE.out.below bb)
            (try replace C := Lib.hid (Reads.more (Reads.below C.out bb) bb.size))
            (try replace RG := Lib.hid (RG.out.step bb))
            (try replace HX := Lib.hid (HX.out.step bb))
            (try replace RZ := hstep RZ bb)
            clear bb
            have HX := Lib.hid hx
            clear hx
            refine hK.out _ _ hS ?_
            clear hK
            simp only [Act.put, List.setIfInBounds_toArray, List.set_cons_zero, List.set_cons_succ]
            refine TA.val2 (v := .tuple #[.agg #[.string (st x0.path), .slice xs.A xs.n xs.c, .int .i64 x0.dev, .bool x0.gone, .int .i64 x0.size, .int .i64 x0.len, .slice xs.D xs.m xs.k], .int .i64 0]) 6 _ (by simp only [List.getElem?_toArray, List.getElem?_cons_succ, List.getElem?_cons_zero]; rfl) (by kernel_rfl) (by kernel_rfl) ?_ ?_ ?_ ?_ ?_
            (focus rfl)
            (focus exact fun V _ => rfl)
            (focus exact fun _ _ _ h => h)
            (focus exact hS)
            simp only [Act.put, List.setIfInBounds_toArray, List.set_cons_zero, List.set_cons_succ]
            refine TA.val2 (v := .agg #[.string (st x0.path), .slice xs.A xs.n xs.c, .int .i64 x0.dev, .bool x0.gone, .int .i64 x0.size, .int .i64 x0.len, .slice xs.D xs.m xs.k]) 7 _ (by simp only [List.getElem?_toArray, List.getElem?_cons_succ, List.getElem?_cons_zero]; rfl) (by kernel_rfl) (by kernel_rfl) ?_ ?_ ?_ ?_ ?_
            (focus rfl)
            (focus exact fun V _ => rfl)
            (focus exact fun _ _ _ h => h)
            (focus exact hS)
            simp only [Act.put, List.setIfInBounds_toArray, List.set_cons_zero, List.set_cons_succ]
            refine TA.val2 (v := .int .i64 0) 8 _ (by simp only [List.getElem?_toArray, List.getElem?_cons_succ, List.getElem?_cons_zero]; rfl) (by kernel_rfl) (by kernel_rfl) ?_ ?_ ?_ ?_ ?_
            (focus rfl)
            (focus exact fun V _ => rfl)
            (focus exact fun _ _ _ h => h)
            (focus exact hS)
            simp only [Act.put, List.setIfInBounds_toArray, List.set_cons_zero, List.set_cons_succ]
            refine TA.all1 10 (by kernel_rfl) ⟨_, (by simp only [List.getElem?_toArray, List.getElem?_cons_succ, List.getElem?_cons_zero]; rfl), (by rfl), fun K hK => ?_⟩
            refine wp_store_row 27 (.tmp 3) (.tmp 22) rfl gw #[.string (st x0.path), .slice xs.A xs.n xs.c, .int .i64 x0.dev, .bool x0.gone, .int .i64 x0.size, .int .i64 x0.len, .slice xs.D xs.m xs.k] rfl rfl 27 _ RZ HI.out rfl (by simp [Value.oneCell']) ?_
            have XS := Lib.hid (setRow_heap v5 gw _ #[.string (st x0.path), .slice xs.A xs.n xs.c, .int .i64 x0.dev, .bool x0.gone, .int .i64 x0.size, .int .i64 x0.len, .slice xs.D xs.m xs.k] _ _ RZ)
            have TS := Lib.hid (below_setRow T.out hgw #[.string (st x0.path), .slice xs.A xs.n xs.c, .int .i64 x0.dev, .bool x0.gone, .int .i64 x0.size, .int .i64 x0.len, .slice xs.D xs.m xs.k])
            have hgn : ga ≠ gw := by omega
            replace hS : (v5.setRow gw #[.string (st x0.path), .slice xs.A xs.n xs.c, .int .i64 x0.dev, .bool x0.gone, .int .i64 x0.size, .int .i64 x0.len, .slice xs.D xs.m xs.k]).heap[ga]? = some (.cells #[.string (st [102]), .slice A1 1 c1, .int .i64 1, .bool false, .int .i64 4, .int .i64 3, .slice D1 1 1] 27 (0, 0)) := (setRow_other _ _ _ _ hgn).trans hS
            have RF := Lib.hid ((RA4.out.below TS.out).more TS.out.size)
            have HF := Lib.hid (HE4.out.below TS.out)
            have HXF := Lib.hid (show RReads (v5.setRow gw #[.string (st x0.path), .slice xs.A xs.n xs.c, .int .i64 x0.dev, .bool x0.gone, .int .i64 x0.size, .int .i64 x0.len, .slice xs.D xs.m xs.k]) (v5.setRow gw #[.string (st x0.path), .slice xs.A xs.n xs.c, .int .i64 x0.dev, .bool x0.gone, .int .i64 x0.size, .int .i64 x0.len, .slice xs.D xs.m xs.k]).heap.size x0 xs from by
              have hsz : (v5.setRow gw #[.string (st x0.path), .slice xs.A xs.n xs.c, .int .i64 x0.dev, .bool x0.gone, .int .i64 x0.size, .int .i64 x0.len, .slice xs.D xs.m xs.k]).heap.size = v5.heap.size := by simp [World.setRow]
              rw [hsz]
              exact ⟨setRow_ne HX.out.cs HNE.1, setRow_ne HX.out.dg HNE.2, HX.out.hn, HX.out.hm, HX.out.ft⟩)
            refine hK.out _ _ hS ?_
            clear hK
            simp only [Act.put, List.setIfInBounds_toArray, List.set_cons_zero, List.set_cons_succ]
            refine TA.val2 (v := .int .i64 0) 11 _ (by simp only [List.getElem?_toArray, List.getElem?_cons_succ, List.getElem?_cons_zero]; rfl) (by kernel_rfl) (by kernel_rfl) ?_ ?_ ?_ ?_ ?_
            (focus rfl)
            (focus exact fun V _ => rfl)
            (focus exact fun _ _ _ h => h)
            (focus exact hS)
            simp only [Act.put, List.setIfInBounds_toArray, List.set_cons_zero, List.set_cons_succ]
            refine TA.tree SK.done (by kernel_rfl) rfl (by kernel_rfl) ?_
            refine TR.done ?_
            go_wp2_with fail
            go_meet
            exact ⟨gw, xs, rfl, rfl, XS.out, HXF.out, hS, RF.out, HF.out, TS.out⟩
        ·
          refine ⟨_, (by simp only [List.getElem?_toArray, List.getElem?_cons_succ, List.getElem?_cons_zero]; rfl), (by rfl), fun K hK => ?_⟩
          go_simp
          have bb := (Below.refl v2.heap.size v2).alloc (Nat.le_refl _) (.cells #[.string ⟨#[]⟩, .slice none 0 0, .int .i64 0, .bool false, .int .i64 0, .int .i64 0, .slice none 0 0] 27)
          have RZ0 := heap_alloc_new v2 (.cells #[.string ⟨#[]⟩, .slice none 0 0, .int .i64 0, .bool false, .int .i64 0, .int .i64 0, .slice none 0 0] 27)
          have hgw0 := T.out.size
          (try have HNE0 := ne_top HX.out)
          replace hS := hstep hS bb
          replace T := Lib.hid (T.out.trans (bb.mono T.out.size))
          replace RA := Lib.hid (RA.out.step bb)
          replace HE := Lib.hid (HE.out.below bb)
          (try replace C := Lib.hid (Reads.more (Reads.below C.out bb) bb.size))
          (try replace RG := Lib.hid (RG.out.step bb))
          (try replace HX := Lib.hid (HX.out.step bb))
          (try replace RZ := hstep RZ bb)
          clear bb
          refine hK.out _ _ hS ?_
          clear hK
          simp only [Act.put, List.setIfInBounds_toArray, List.set_cons_zero, List.set_cons_succ]
          have RZ := RZ0
          have hgw := hgw0
          (try have HNE := HNE0)
          (try clear HNE0)
          clear RZ0 hgw0
          generalize v2.alloc (.cells #[.string ⟨#[]⟩, .slice none 0 0, .int .i64 0, .bool false, .int .i64 0, .int .i64 0, .slice none 0 0] 27) = v3 at *
          generalize v2.heap.size = gw at *
          refine TA.all1 4 (by kernel_rfl) ?_
          refine ⟨_, (by simp only [List.getElem?_toArray, List.getElem?_cons_succ, List.getElem?_cons_zero]; rfl), (by rfl), fun K hK => ?_⟩
          go_simp
          refine (gone_v [102] 2 (some ⟨gb, 0, none⟩) 1 1 v3.heap.size [(2, 2)] v3 C.out (Nat.le_refl _) (by omega)).mono ?_
          rintro e v4 ⟨A2, c2, rfl, ho, bb⟩
          clear C
          replace hS := hstep hS bb
          replace T := Lib.hid (T.out.trans (bb.mono T.out.size))
          replace RA := Lib.hid (RA.out.step bb)
          replace HE := Lib.hid (HE.out.below bb)
          (try replace C := Lib.hid (Reads.more (Reads.below C.out bb) bb.size))
          (try replace RG := Lib.hid (RG.out.step bb))
          (try replace HX := Lib.hid (HX.out.step bb))
          (try replace RZ := hstep RZ bb)
          clear bb
          have RG := Lib.hid (rcG_reads ho)
          clear ho
          refine hK.out _ _ hS ?_
          clear hK
          simp only [Act.put, List.setIfInBounds_toArray, List.set_cons_zero, List.set_cons_succ]
          refine TA.all1 5 (by kernel_rfl) ?_
          refine ⟨_, (by simp only [List.getElem?_toArray, List.getElem?_cons_succ, List.getElem?_cons_zero]; rfl), (by rfl), fun K hK => ?_⟩
          go_simp
          have SV := settle_o (rcF 1 7 [(1, 1)]) rcG ⟨A1, 1, c1, D1, 1, 1⟩ ⟨A2, 1, c2, none, 0, 0⟩ v4.heap.size v4 HE.out.m RA.out RG.out (Nat.le_refl _)
          rw [SET.out] at SV
          refine SV.mono ?_
          rintro e v5 ⟨xs, rfl, hx, lo1, lo2, bb⟩
          clear RG
          (try have HNE := ne_lo (Array.getElem?_eq_some_iff.1 RZ).1 lo1 lo2)
          clear lo1 lo2
          replace hS := hstep hS bb
          replace T := Lib.hid (T.out.trans (bb.mono T.out.size))
          replace RA := Lib.hid (RA.out.step bb)
          replace HE := Lib.hid (HE.out.below bb)
          (try replace C := Lib.hid (Reads.more (Reads.below C.out bb) bb.size))
          (try replace RG := Lib.hid (RG.out.step bb))
          (try replace HX := Lib.hid (HX.out.step bb))
          (try replace RZ := hstep RZ bb)
          clear bb
          have HX := Lib.hid hx
          clear hx
          refine hK.out _ _ hS ?_
          clear hK
          simp only [Act.put, List.setIfInBounds_toArray, List.set_cons_zero, List.set_cons_succ]
          refine TA.val2 (v := .tuple #[.agg #[.string (st x0.path), .slice xs.A xs.n xs.c, .int .i64 x0.dev, .bool x0.gone, .int .i64 x0.size, .int .i64 x0.len, .slice xs.D xs.m xs.k], .int .i64 0]) 6 _ (by simp only [List.getElem?_toArray, List.getElem?_cons_succ, List.getElem?_cons_zero]; rfl) (by kernel_rfl) (by kernel_rfl) ?_ ?_ ?_ ?_ ?_
          (focus rfl)
          (focus exact fun V _ => rfl)
          (focus exact fun _ _ _ h => h)
          (focus exact hS)
          simp only [Act.put, List.setIfInBounds_toArray, List.set_cons_zero, List.set_cons_succ]
          refine TA.val2 (v := .agg #[.string (st x0.path), .slice xs.A xs.n xs.c, .int .i64 x0.dev, .bool x0.gone, .int .i64 x0.size, .int .i64 x0.len, .slice xs.D xs.m xs.k]) 7 _ (by simp only [List.getElem?_toArray, List.getElem?_cons_succ, List.getElem?_cons_zero]; rfl) (by kernel_rfl) (by kernel_rfl) ?_ ?_ ?_ ?_ ?_
          (focus rfl)
          (focus exact fun V _ => rfl)
          (focus exact fun _ _ _ h => h)
          (focus exact hS)
          simp only [Act.put, List.setIfInBounds_toArray, List.set_cons_zero, List.set_cons_succ]
          refine TA.val2 (v := .int .i64 0) 8 _ (by simp only [List.getElem?_toArray, List.getElem?_cons_succ, List.getElem?_cons_zero]; rfl) (by kernel_rfl) (by kernel_rfl) ?_ ?_ ?_ ?_ ?_
          (focus rfl)
          (focus exact fun V _ => rfl)
          (focus exact fun _ _ _ h => h)
          (focus exact hS)
          simp only [Act.put, List.setIfInBounds_toArray, List.set_cons_zero, List.set_cons_succ]
          refine TA.all1 10 (by kernel_rfl) ⟨_, (by simp only [List.getElem?_toArray, List.getElem?_cons_succ, List.getElem?_cons_zero]; rfl), (by rfl), fun K hK => ?_⟩
          refine wp_store_row 27 (.tmp 3) (.tmp 22) rfl gw #[.string (st x0.path), .slice xs.A xs.n xs.c, .int .i64 x0.dev, .bool x0.gone, .int .i64 x0.size, .int .i64 x0.len, .slice xs.D xs.m xs.k] rfl rfl 27 _ RZ HI.out rfl (by simp [Value.oneCell']) ?_
          have XS := Lib.hid (setRow_heap v5 gw _ #[.string (st x0.path), .slice xs.A xs.n xs.c, .int .i64 x0.dev, .bool x0.gone, .int .i64 x0.size, .int .i64 x0.len, .slice xs.D xs.m xs.k] _ _ RZ)
          have TS := Lib.hid (below_setRow T.out hgw #[.string (st x0.path), .slice xs.A xs.n xs.c, .int .i64 x0.dev, .bool x0.gone, .int .i64 x0.size, .int .i64 x0.len, .slice xs.D xs.m xs.k])
          have hgn : ga ≠ gw := by omega
          replace hS : (v5.setRow gw #[.string (st x0.path), .slice xs.A xs.n xs.c, .int .i64 x0.dev, .bool x0.gone, .int .i64 x0.size, .int .i64 x0.len, .slice xs.D xs.m xs.k]).heap[ga]? = some (.cells #[.string (st [102]), .slice A1 1 c1, .int .i64 1, .bool false, .int .i64 4, .int .i64 3, .slice D1 1 1] 27 (0, 0)) := (setRow_other _ _ _ _ hgn).trans hS
          have RF := Lib.hid ((RA4.out.below TS.out).more TS.out.size)
          have HF := Lib.hid (HE4.out.below TS.out)
          have HXF := Lib.hid (show RReads (v5.setRow gw #[.string (st x0.path), .slice xs.A xs.n xs.c, .int .i64 x0.dev, .bool x0.gone, .int .i64 x0.size, .int .i64 x0.len, .slice xs.D xs.m xs.k]) (v5.setRow gw #[.string (st x0.path), .slice xs.A xs.n xs.c, .int .i64 x0.dev, .bool x0.gone, .int .i64 x0.size, .int .i64 x0.len, .slice xs.D xs.m xs.k]).heap.size x0 xs from by
            have hsz : (v5.setRow gw #[.string (st x0.path), .slice xs.A xs.n xs.c, .int .i64 x0.dev, .bool x0.gone, .int .i64 x0.size, .int .i64 x0.len, .slice xs.D xs.m xs.k]).heap.size = v5.heap.size := by simp [World.setRow]
            rw [hsz]
            exact ⟨setRow_ne HX.out.cs HNE.1, setRow_ne HX.out.dg HNE.2, HX.out.hn, HX.out.hm, HX.out.ft⟩)
          refine hK.out _ _ hS ?_
          clear hK
          simp only [Act.put, List.setIfInBounds_toArray, List.set_cons_zero, List.set_cons_succ]
          refine TA.val2 (v := .int .i64 0) 11 _ (by simp only [List.getElem?_toArray, List.getElem?_cons_succ, List.getElem?_cons_zero]; rfl) (by kernel_rfl) (by kernel_rfl) ?_ ?_ ?_ ?_ ?_
          (focus rfl)
          (focus exact fun V _ => rfl)
          (focus exact fun _ _ _ h => h)
          (focus exact hS)
          simp only [Act.put, List.setIfInBounds_toArray, List.set_cons_zero, List.set_cons_succ]
          refine TA.tree SK.done (by kernel_rfl) rfl (by kernel_rfl) ?_
          refine TR.done ?_
          go_wp2_with fail
          go_meet
          exact ⟨gw, xs, rfl, rfl, XS.out, HXF.out, hS, RF.out, HF.out, TS.out⟩
      ·
        refine ⟨_, (by simp only [List.getElem?_toArray, List.getElem?_cons_succ, List.getElem?_cons_zero]; rfl), (by rfl), fun K hK => ?_⟩
        go_simp
        have bb := (Below.refl v1.heap.size v1).alloc (Nat.le_refl _) (.cells #[.string ⟨#[]⟩, .slice none 0 0, .int .i64 0, .bool false, .int .i64 0, .int .i64 0, .slice none 0 0] 27)
        have RZ0 := heap_alloc_new v1 (.cells #[.string ⟨#[]⟩, .slice none 0 0, .int .i64 0, .bool false, .int .i64 0, .int .i64 0, .slice none 0 0] 27)
        have hgw0 := T.out.size
        (try have HNE0 := ne_top HX.out)
        replace hS := hstep hS bb
        replace T := Lib.hid (T.out.trans (bb.mono T.out.size))
        replace RA := Lib.hid (RA.out.step bb)
        replace HE := Lib.hid (HE.out.below bb)
        (try replace C := Lib.hid (Reads.more (Reads.below C.out bb) bb.size))
        (try replace RG := Lib.hid (RG.out.step bb))
        (try replace HX := Lib.hid (HX.out.step bb))
        (try replace RZ := hstep RZ bb)
        clear bb
        refine hK.out _ _ hS ?_
        clear hK
        simp only [Act.put, List.setIfInBounds_toArray, List.set_cons_zero, List.set_cons_succ]
        have RZ := RZ0
        have hgw := hgw0
        (try have HNE := HNE0)
        (try clear HNE0)
        clear RZ0 hgw0
        generalize v1.alloc (.cells #[.string ⟨#[]⟩, .slice none 0 0, .int .i64 0, .bool false, .int .i64 0, .int .i64 0, .slice none 0 0] 27) = v2 at *
        generalize v1.heap.size = gw at *
        refine TA.all1 3 (by kernel_rfl) ?_
        refine ⟨_, (by simp only [List.getElem?_toArray, List.getElem?_cons_succ, List.getElem?_cons_zero]; rfl), (by rfl), fun K hK => ?_⟩
        go_simp
        have bb := (Below.refl v2.heap.size v2).alloc (Nat.le_refl _) (.cells #[.int .i64 2, .int .u64 2] 49)
        have C0 := Lib.hid (show CReads (v2.alloc (.cells #[.int .i64 2, .int .u64 2] 49)) (v2.alloc (.cells #[.int .i64 2, .int .u64 2] 49)).heap.size (some ⟨v2.heap.size, 0, none⟩) 1 [(2, 2)] from Reads.more (clit v2 [(2, 2)] #[.int .i64 2, .int .u64 2] 49 rfl) (by simp))
        replace hS := hstep hS bb
        replace T := Lib.hid (T.out.trans (bb.mono T.out.size))
        replace RA := Lib.hid (RA.out.step bb)
        replace HE := Lib.hid (HE.out.below bb)
        (try replace C := Lib.hid (Reads.more (Reads.below C.out bb) bb.size))
        (try replace RG := Lib.hid (RG.out.step bb))
        (try replace HX := Lib.hid (HX.out.step bb))
        (try replace RZ := hstep RZ bb)
        clear bb
        refine hK.out _ _ hS ?_
        clear hK
        simp only [Act.put, List.setIfInBounds_toArray, List.set_cons_zero, List.set_cons_succ]
        have C := C0
        clear C0
        generalize v2.alloc (.cells #[.int .i64 2, .int .u64 2] 49) = v3 at *
        generalize v2.heap.size = gb at *
        refine TA.all1 4 (by kernel_rfl) ?_
        refine ⟨_, (by simp only [List.getElem?_toArray, List.getElem?_cons_succ, List.getElem?_cons_zero]; rfl), (by rfl), fun K hK => ?_⟩
        go_simp
        refine (gone_v [102] 2 (some ⟨gb, 0, none⟩) 1 1 v3.heap.size [(2, 2)] v3 C.out (Nat.le_refl _) (by omega)).mono ?_
        rintro e v4 ⟨A2, c2, rfl, ho, bb⟩
        clear C
        replace hS := hstep hS bb
        replace T := Lib.hid (T.out.trans (bb.mono T.out.size))
        replace RA := Lib.hid (RA.out.step bb)
        replace HE := Lib.hid (HE.out.below bb)
        (try replace C := Lib.hid (Reads.more (Reads.below C.out bb) bb.size))
        (try replace RG := Lib.hid (RG.out.step bb))
        (try replace HX := Lib.hid (HX.out.step bb))
        (try replace RZ := hstep RZ bb)
        clear bb
        have RG := Lib.hid (rcG_reads ho)
        clear ho
        refine hK.out _ _ hS ?_
        clear hK
        simp only [Act.put, List.setIfInBounds_toArray, List.set_cons_zero, List.set_cons_succ]
        refine TA.all1 5 (by kernel_rfl) ?_
        refine ⟨_, (by simp only [List.getElem?_toArray, List.getElem?_cons_succ, List.getElem?_cons_zero]; rfl), (by rfl), fun K hK => ?_⟩
        go_simp
        have SV := settle_o (rcF 1 7 [(1, 1)]) rcG ⟨A1, 1, c1, D1, 1, 1⟩ ⟨A2, 1, c2, none, 0, 0⟩ v4.heap.size v4 HE.out.m RA.out RG.out (Nat.le_refl _)
        rw [SET.out] at SV
        refine SV.mono ?_
        rintro e v5 ⟨xs, rfl, hx, lo1, lo2, bb⟩
        clear RG
        (try have HNE := ne_lo (Array.getElem?_eq_some_iff.1 RZ).1 lo1 lo2)
        clear lo1 lo2
        replace hS := hstep hS bb
        replace T := Lib.hid (T.out.trans (bb.mono T.out.size))
        replace RA := Lib.hid (RA.out.step bb)
        replace HE := Lib.hid (HE.out.below bb)
        (try replace C := Lib.hid (Reads.more (Reads.below C.out bb) bb.size))
        (try replace RG := Lib.hid (RG.out.step bb))
        (try replace HX := Lib.hid (HX.out.step bb))
        (try replace RZ := hstep RZ bb)
        clear bb
        have HX := Lib.hid hx
        clear hx
        refine hK.out _ _ hS ?_
        clear hK
        simp only [Act.put, List.setIfInBounds_toArray, List.set_cons_zero, List.set_cons_succ]
        refine TA.val2 (v := .tuple #[.agg #[.string (st x0.path), .slice xs.A xs.n xs.c, .int .i64 x0.dev, .bool x0.gone, .int .i64 x0.size, .int .i64 x0.len, .slice xs.D xs.m xs.k], .int .i64 0]) 6 _ (by simp only [List.getElem?_toArray, List.getElem?_cons_succ, List.getElem?_cons_zero]; rfl) (by kernel_rfl) (by kernel_rfl) ?_ ?_ ?_ ?_ ?_
        (focus rfl)
        (focus exact fun V _ => rfl)
        (focus exact fun _ _ _ h => h)
        (focus exact hS)
        simp only [Act.put, List.setIfInBounds_toArray, List.set_cons_zero, List.set_cons_succ]
        refine TA.val2 (v := .agg #[.string (st x0.path), .slice xs.A xs.n xs.c, .int .i64 x0.dev, .bool x0.gone, .int .i64 x0.size, .int .i64 x0.len, .slice xs.D xs.m xs.k]) 7 _ (by simp only [List.getElem?_toArray, List.getElem?_cons_succ, List.getElem?_cons_zero]; rfl) (by kernel_rfl) (by kernel_rfl) ?_ ?_ ?_ ?_ ?_
        (focus rfl)
        (focus exact fun V _ => rfl)
        (focus exact fun _ _ _ h => h)
        (focus exact hS)
        simp only [Act.put, List.setIfInBounds_toArray, List.set_cons_zero, List.set_cons_succ]
        refine TA.val2 (v := .int .i64 0) 8 _ (by simp only [List.getElem?_toArray, List.getElem?_cons_succ, List.getElem?_cons_zero]; rfl) (by kernel_rfl) (by kernel_rfl) ?_ ?_ ?_ ?_ ?_
        (focus rfl)
        (focus exact fun V _ => rfl)
        (focus exact fun _ _ _ h => h)
        (focus exact hS)
        simp only [Act.put, List.setIfInBounds_toArray, List.set_cons_zero, List.set_cons_succ]
        refine TA.all1 10 (by kernel_rfl) ⟨_, (by simp only [List.getElem?_toArray, List.getElem?_cons_succ, List.getElem?_cons_zero]; rfl), (by rfl), fun K hK => ?_⟩
        refine wp_store_row 27 (.tmp 3) (.tmp 22) rfl gw #[.string (st x0.path), .slice xs.A xs.n xs.c, .int .i64 x0.dev, .bool x0.gone, .int .i64 x0.size, .int .i64 x0.len, .slice xs.D xs.m xs.k] rfl rfl 27 _ RZ HI.out rfl (by simp [Value.oneCell']) ?_
        have XS := Lib.hid (setRow_heap v5 gw _ #[.string (st x0.path), .slice xs.A xs.n xs.c, .int .i64 x0.dev, .bool x0.gone, .int .i64 x0.size, .int .i64 x0.len, .slice xs.D xs.m xs.k] _ _ RZ)
        have TS := Lib.hid (below_setRow T.out hgw #[.string (st x0.path), .slice xs.A xs.n xs.c, .int .i64 x0.dev, .bool x0.gone, .int .i64 x0.size, .int .i64 x0.len, .slice xs.D xs.m xs.k])
        have hgn : ga ≠ gw := by omega
        replace hS : (v5.setRow gw #[.string (st x0.path), .slice xs.A xs.n xs.c, .int .i64 x0.dev, .bool x0.gone, .int .i64 x0.size, .int .i64 x0.len, .slice xs.D xs.m xs.k]).heap[ga]? = some (.cells #[.string (st [102]), .slice A1 1 c1, .int .i64 1, .bool false, .int .i64 4, .int .i64 3, .slice D1 1 1] 27 (0, 0)) := (setRow_other _ _ _ _ hgn).trans hS
        have RF := Lib.hid ((RA4.out.below TS.out).more TS.out.size)
        have HF := Lib.hid (HE4.out.below TS.out)
        have HXF := Lib.hid (show RReads (v5.setRow gw #[.string (st x0.path), .slice xs.A xs.n xs.c, .int .i64 x0.dev, .bool x0.gone, .int .i64 x0.size, .int .i64 x0.len, .slice xs.D xs.m xs.k]) (v5.setRow gw #[.string (st x0.path), .slice xs.A xs.n xs.c, .int .i64 x0.dev, .bool x0.gone, .int .i64 x0.size, .int .i64 x0.len, .slice xs.D xs.m xs.k]).heap.size x0 xs from by
          have hsz : (v5.setRow gw #[.string (st x0.path), .slice xs.A xs.n xs.c, .int .i64 x0.dev, .bool x0.gone, .int .i64 x0.size, .int .i64 x0.len, .slice xs.D xs.m xs.k]).heap.size = v5.heap.size := by simp [World.setRow]
          rw [hsz]
          exact ⟨setRow_ne HX.out.cs HNE.1, setRow_ne HX.out.dg HNE.2, HX.out.hn, HX.out.hm, HX.out.ft⟩)
        refine hK.out _ _ hS ?_
        clear hK
        simp only [Act.put, List.setIfInBounds_toArray, List.set_cons_zero, List.set_cons_succ]
        refine TA.val2 (v := .int .i64 0) 11 _ (by simp only [List.getElem?_toArray, List.getElem?_cons_succ, List.getElem?_cons_zero]; rfl) (by kernel_rfl) (by kernel_rfl) ?_ ?_ ?_ ?_ ?_
        (focus rfl)
        (focus exact fun V _ => rfl)
        (focus exact fun _ _ _ h => h)
        (focus exact hS)
        simp only [Act.put, List.setIfInBounds_toArray, List.set_cons_zero, List.set_cons_succ]
        refine TA.tree SK.done (by kernel_rfl) rfl (by kernel_rfl) ?_
        refine TR.done ?_
        go_wp2_with fail
        go_meet
        exact ⟨gw, xs, rfl, rfl, XS.out, HXF.out, hS, RF.out, HF.out, TS.out⟩
    ·
      refine ⟨_, (by simp only [List.getElem?_toArray, List.getElem?_cons_succ, List.getElem?_cons_zero]; rfl), (by rfl), fun K hK => ?_⟩
      go_simp
      have bb := (Below.refl v0.heap.size v0).alloc (Nat.le_refl _) (.cells #[.string ⟨#[]⟩, .slice none 0 0, .int .i64 0, .bool false, .int .i64 0, .int .i64 0, .slice none 0 0] 27)
      have RZ0 := heap_alloc_new v0 (.cells #[.string ⟨#[]⟩, .slice none 0 0, .int .i64 0, .bool false, .int .i64 0, .int .i64 0, .slice none 0 0] 27)
      have hgw0 := T.out.size
      (try have HNE0 := ne_top HX.out)
      replace hS := hstep hS bb
      replace T := Lib.hid (T.out.trans (bb.mono T.out.size))
      replace RA := Lib.hid (RA.out.step bb)
      replace HE := Lib.hid (HE.out.below bb)
      (try replace C := Lib.hid (Reads.more (Reads.below C.out bb) bb.size))
      (try replace RG := Lib.hid (RG.out.step bb))
      (try replace HX := Lib.hid (HX.out.step bb))
      (try replace RZ := hstep RZ bb)
      clear bb
      refine hK.out _ _ hS ?_
      clear hK
      simp only [Act.put, List.setIfInBounds_toArray, List.set_cons_zero, List.set_cons_succ]
      have RZ := RZ0
      have hgw := hgw0
      (try have HNE := HNE0)
      (try clear HNE0)
      clear RZ0 hgw0
      generalize v0.alloc (.cells #[.string ⟨#[]⟩, .slice none 0 0, .int .i64 0, .bool false, .int .i64 0, .int .i64 0, .slice none 0 0] 27) = v1 at *
      generalize v0.heap.size = gw at *
      refine TA.all1 2 (by kernel_rfl) ?_
      refine ⟨_, (by simp only [List.getElem?_toArray, List.getElem?_cons_succ, List.getElem?_cons_zero]; rfl), (by rfl), fun K hK => ?_⟩
      go_simp
      refine (kat_v 2 2 _).mono ?_
      rintro e v2 ⟨rfl, bb⟩
      replace hS := hstep hS bb
      replace T := Lib.hid (T.out.trans (bb.mono T.out.size))
      replace RA := Lib.hid (RA.out.step bb)
      replace HE := Lib.hid (HE.out.below bb)
      (try replace C := Lib.hid (Reads.more (Reads.below C.out bb) bb.size))
      (try replace RG := Lib.hid (RG.out.step bb))
      (try replace HX := Lib.hid (HX.out.step bb))
      (try replace RZ := hstep RZ bb)
      clear bb
      refine hK.out _ _ hS ?_
      clear hK
      simp only [Act.put, List.setIfInBounds_toArray, List.set_cons_zero, List.set_cons_succ]
      refine TA.all1 3 (by kernel_rfl) ?_
      refine ⟨_, (by simp only [List.getElem?_toArray, List.getElem?_cons_succ, List.getElem?_cons_zero]; rfl), (by rfl), fun K hK => ?_⟩
      go_simp
      have bb := (Below.refl v2.heap.size v2).alloc (Nat.le_refl _) (.cells #[.int .i64 2, .int .u64 2] 49)
      have C0 := Lib.hid (show CReads (v2.alloc (.cells #[.int .i64 2, .int .u64 2] 49)) (v2.alloc (.cells #[.int .i64 2, .int .u64 2] 49)).heap.size (some ⟨v2.heap.size, 0, none⟩) 1 [(2, 2)] from Reads.more (clit v2 [(2, 2)] #[.int .i64 2, .int .u64 2] 49 rfl) (by simp))
      replace hS := hstep hS bb
      replace T := Lib.hid (T.out.trans (bb.mono T.out.size))
      replace RA := Lib.hid (RA.out.step bb)
      replace HE := Lib.hid (HE.out.below bb)
      (try replace C := Lib.hid (Reads.more (Reads.below C.out bb) bb.size))
      (try replace RG := Lib.hid (RG.out.step bb))
      (try replace HX := Lib.hid (HX.out.step bb))
      (try replace RZ := hstep RZ bb)
      clear bb
      refine hK.out _ _ hS ?_
      clear hK
      simp only [Act.put, List.setIfInBounds_toArray, List.set_cons_zero, List.set_cons_succ]
      have C := C0
      clear C0
      generalize v2.alloc (.cells #[.int .i64 2, .int .u64 2] 49) = v3 at *
      generalize v2.heap.size = gb at *
      refine TA.all1 4 (by kernel_rfl) ?_
      refine ⟨_, (by simp only [List.getElem?_toArray, List.getElem?_cons_succ, List.getElem?_cons_zero]; rfl), (by rfl), fun K hK => ?_⟩
      go_simp
      refine (gone_v [102] 2 (some ⟨gb, 0, none⟩) 1 1 v3.heap.size [(2, 2)] v3 C.out (Nat.le_refl _) (by omega)).mono ?_
      rintro e v4 ⟨A2, c2, rfl, ho, bb⟩
      clear C
      replace hS := hstep hS bb
      replace T := Lib.hid (T.out.trans (bb.mono T.out.size))
      replace RA := Lib.hid (RA.out.step bb)
      replace HE := Lib.hid (HE.out.below bb)
      (try replace C := Lib.hid (Reads.more (Reads.below C.out bb) bb.size))
      (try replace RG := Lib.hid (RG.out.step bb))
      (try replace HX := Lib.hid (HX.out.step bb))
      (try replace RZ := hstep RZ bb)
      clear bb
      have RG := Lib.hid (rcG_reads ho)
      clear ho
      refine hK.out _ _ hS ?_
      clear hK
      simp only [Act.put, List.setIfInBounds_toArray, List.set_cons_zero, List.set_cons_succ]
      refine TA.all1 5 (by kernel_rfl) ?_
      refine ⟨_, (by simp only [List.getElem?_toArray, List.getElem?_cons_succ, List.getElem?_cons_zero]; rfl), (by rfl), fun K hK => ?_⟩
      go_simp
      have SV := settle_o (rcF 1 7 [(1, 1)]) rcG ⟨A1, 1, c1, D1, 1, 1⟩ ⟨A2, 1, c2, none, 0, 0⟩ v4.heap.size v4 HE.out.m RA.out RG.out (Nat.le_refl _)
      rw [SET.out] at SV
      refine SV.mono ?_
      rintro e v5 ⟨xs, rfl, hx, lo1, lo2, bb⟩
      clear RG
      (try have HNE := ne_lo (Array.getElem?_eq_some_iff.1 RZ).1 lo1 lo2)
      clear lo1 lo2
      replace hS := hstep hS bb
      replace T := Lib.hid (T.out.trans (bb.mono T.out.size))
      replace RA := Lib.hid (RA.out.step bb)
      replace HE := Lib.hid (HE.out.below bb)
      (try replace C := Lib.hid (Reads.more (Reads.below C.out bb) bb.size))
      (try replace RG := Lib.hid (RG.out.step bb))
      (try replace HX := Lib.hid (HX.out.step bb))
      (try replace RZ := hstep RZ bb)
      clear bb
      have HX := Lib.hid hx
      clear hx
      refine hK.out _ _ hS ?_
      clear hK
      simp only [Act.put, List.setIfInBounds_toArray, List.set_cons_zero, List.set_cons_succ]
      refine TA.val2 (v := .tuple #[.agg #[.string (st x0.path), .slice xs.A xs.n xs.c, .int .i64 x0.dev, .bool x0.gone, .int .i64 x0.size, .int .i64 x0.len, .slice xs.D xs.m xs.k], .int .i64 0]) 6 _ (by simp only [List.getElem?_toArray, List.getElem?_cons_succ, List.getElem?_cons_zero]; rfl) (by kernel_rfl) (by kernel_rfl) ?_ ?_ ?_ ?_ ?_
      (focus rfl)
      (focus exact fun V _ => rfl)
      (focus exact fun _ _ _ h => h)
      (focus exact hS)
      simp only [Act.put, List.setIfInBounds_toArray, List.set_cons_zero, List.set_cons_succ]
      refine TA.val2 (v := .agg #[.string (st x0.path), .slice xs.A xs.n xs.c, .int .i64 x0.dev, .bool x0.gone, .int .i64 x0.size, .int .i64 x0.len, .slice xs.D xs.m xs.k]) 7 _ (by simp only [List.getElem?_toArray, List.getElem?_cons_succ, List.getElem?_cons_zero]; rfl) (by kernel_rfl) (by kernel_rfl) ?_ ?_ ?_ ?_ ?_
      (focus rfl)
      (focus exact fun V _ => rfl)
      (focus exact fun _ _ _ h => h)
      (focus exact hS)
      simp only [Act.put, List.setIfInBounds_toArray, List.set_cons_zero, List.set_cons_succ]
      refine TA.val2 (v := .int .i64 0) 8 _ (by simp only [List.getElem?_toArray, List.getElem?_cons_succ, List.getElem?_cons_zero]; rfl) (by kernel_rfl) (by kernel_rfl) ?_ ?_ ?_ ?_ ?_
      (focus rfl)
      (focus exact fun V _ => rfl)
      (focus exact fun _ _ _ h => h)
      (focus exact hS)
      simp only [Act.put, List.setIfInBounds_toArray, List.set_cons_zero, List.set_cons_succ]
      refine TA.all1 10 (by kernel_rfl) ⟨_, (by simp only [List.getElem?_toArray, List.getElem?_cons_succ, List.getElem?_cons_zero]; rfl), (by rfl), fun K hK => ?_⟩
      refine wp_store_row 27 (.tmp 3) (.tmp 22) rfl gw #[.string (st x0.path), .slice xs.A xs.n xs.c, .int .i64 x0.dev, .bool x0.gone, .int .i64 x0.size, .int .i64 x0.len, .slice xs.D xs.m xs.k] rfl rfl 27 _ RZ HI.out rfl (by simp [Value.oneCell']) ?_
      have XS := Lib.hid (setRow_heap v5 gw _ #[.string (st x0.path), .slice xs.A xs.n xs.c, .int .i64 x0.dev, .bool x0.gone, .int .i64 x0.size, .int .i64 x0.len, .slice xs.D xs.m xs.k] _ _ RZ)
      have TS := Lib.hid (below_setRow T.out hgw #[.string (st x0.path), .slice xs.A xs.n xs.c, .int .i64 x0.dev, .bool x0.gone, .int .i64 x0.size, .int .i64 x0.len, .slice xs.D xs.m xs.k])
      have hgn : ga ≠ gw := by omega
      replace hS : (v5.setRow gw #[.string (st x0.path), .slice xs.A xs.n xs.c, .int .i64 x0.dev, .bool x0.gone, .int .i64 x0.size, .int .i64 x0.len, .slice xs.D xs.m xs.k]).heap[ga]? = some (.cells #[.string (st [102]), .slice A1 1 c1, .int .i64 1, .bool false, .int .i64 4, .int .i64 3, .slice D1 1 1] 27 (0, 0)) := (setRow_other _ _ _ _ hgn).trans hS
      have RF := Lib.hid ((RA4.out.below TS.out).more TS.out.size)
      have HF := Lib.hid (HE4.out.below TS.out)
      have HXF := Lib.hid (show RReads (v5.setRow gw #[.string (st x0.path), .slice xs.A xs.n xs.c, .int .i64 x0.dev, .bool x0.gone, .int .i64 x0.size, .int .i64 x0.len, .slice xs.D xs.m xs.k]) (v5.setRow gw #[.string (st x0.path), .slice xs.A xs.n xs.c, .int .i64 x0.dev, .bool x0.gone, .int .i64 x0.size, .int .i64 x0.len, .slice xs.D xs.m xs.k]).heap.size x0 xs from by
        have hsz : (v5.setRow gw #[.string (st x0.path), .slice xs.A xs.n xs.c, .int .i64 x0.dev, .bool x0.gone, .int .i64 x0.size, .int .i64 x0.len, .slice xs.D xs.m xs.k]).heap.size = v5.heap.size := by simp [World.setRow]
        rw [hsz]
        exact ⟨setRow_ne HX.out.cs HNE.1, setRow_ne HX.out.dg HNE.2, HX.out.hn, HX.out.hm, HX.out.ft⟩)
      refine hK.out _ _ hS ?_
      clear hK
      simp only [Act.put, List.setIfInBounds_toArray, List.set_cons_zero, List.set_cons_succ]
      refine TA.val2 (v := .int .i64 0) 11 _ (by simp only [List.getElem?_toArray, List.getElem?_cons_succ, List.getElem?_cons_zero]; rfl) (by kernel_rfl) (by kernel_rfl) ?_ ?_ ?_ ?_ ?_
      (focus rfl)
      (focus exact fun V _ => rfl)
      (focus exact fun _ _ _ h => h)
      (focus exact hS)
      simp only [Act.put, List.setIfInBounds_toArray, List.set_cons_zero, List.set_cons_succ]
      refine TA.tree SK.done (by kernel_rfl) rfl (by kernel_rfl) ?_
      refine TR.done ?_
      go_wp2_with fail
      go_meet
      exact ⟨gw, xs, rfl, rfl, XS.out, HXF.out, hS, RF.out, HF.out, TS.out⟩
  case rest =>
  obtain ⟨gs, xs, rfl, rfl, hxs, hHX, hxa, hRA, hHE, bb⟩ := hcut
  have hfc : x0.gone = true ∧ x0.v = [(1, 1), (2, 2)] := by rw [← HX0.out]; exact ⟨exG.2.1, exG.2.2.1⟩
  have FC := Lib.hid hfc
  replace BA := Lib.hid (BA.out.trans (bb.mono BA.out.size))
  have PA := Lib.hid hxa
  have PS := Lib.hid hxs
  have HX := Lib.hid hHX
  replace RA := Lib.hid hRA
  replace HE := Lib.hid hHE
  clear bb hxs hHX hxa hRA hHE RA4 HE4 X0 hga SET hfc
  go_wp2_with (first | (refine wpList_load_slot rfl 27 (.tmp 2) rfl ⟨ga, 0, none⟩ rfl [.string (st [102]), .slice A1 1 c1, .int .i64 1, .bool false, .int .i64 4, .int .i64 3, .slice D1 1 1] _ (rcells_at PA.out arr_at) Tryd.underlying27 rfl HI.out ?_) | fail)
  refine (place_v (rcF 1 7 [(1, 1)]) ⟨A1, 1, c1, D1, 1, 1⟩ wc.heap.size 26 #[] tkN wc HE.out RA.out (Nat.le_refl _) exG.2.2.2 (run_f Tryd.func26 (by kernel_rfl) rfl) (fun s W _ => tk_v s W)).mono ?_
  rw [show placeF tkN (rcF 1 7 [(1, 1)]).path (rcF 1 7 [(1, 1)]).dev (List.range 1000) = ([102, 46, 99, 49, 45, 49], 0) from exP]
  rintro e w5 ⟨rfl, bb⟩
  replace BA := Lib.hid (BA.out.trans (bb.mono BA.out.size))
  replace RA := Lib.hid (RA.out.step bb)
  replace HX := Lib.hid (HX.out.step bb)
  replace HE := Lib.hid (HE.out.below bb)
  replace PA := Lib.hid (hstep PA.out bb)
  replace PS := Lib.hid (hstep PS.out bb)
  clear bb
  dsimp only
  go_wp2_with fail
  refine (of_v' [] none 0 0 w5.heap.size w5 HE.out.m ⟨Reads.none_, fun x hx => by cases hx⟩ (Nat.le_refl _) (by omega)).mono ?_
  rintro e w6 ⟨rfl, bb⟩
  rw [show ofR (([] : List (Rcd × RSh)).map Prod.fst) = (0, 2) from rfl]
  replace BA := Lib.hid (BA.out.trans (bb.mono BA.out.size))
  replace RA := Lib.hid (RA.out.step bb)
  replace HX := Lib.hid (HX.out.step bb)
  replace HE := Lib.hid (HE.out.below bb)
  replace PA := Lib.hid (hstep PA.out bb)
  replace PS := Lib.hid (hstep PS.out bb)
  clear bb
  dsimp only
  go_wp2_with (first | (refine wpList_load_slot rfl 27 (.tmp 2) rfl ⟨ga, 0, none⟩ rfl [.string (st [102]), .slice A1 1 c1, .int .i64 1, .bool false, .int .i64 4, .int .i64 3, .slice D1 1 1] _ (rcells_at PA.out arr_at) Tryd.underlying27 rfl HI.out ?_) | fail)
  refine (place_nil (rcF 1 7 [(1, 1)]) ⟨A1, 1, c1, D1, 1, 1⟩ w6.heap.size w6 HE.out.m RA.out (Nat.le_refl _) exG.2.2.2).mono ?_
  rintro e w7 ⟨rfl, bb⟩
  replace BA := Lib.hid (BA.out.trans (bb.mono BA.out.size))
  replace RA := Lib.hid (RA.out.step bb)
  replace HX := Lib.hid (HX.out.step bb)
  replace HE := Lib.hid (HE.out.below bb)
  replace PA := Lib.hid (hstep PA.out bb)
  replace PS := Lib.hid (hstep PS.out bb)
  clear bb
  go_upto_region 7 with fail
  (try dsimp only [List.append])
  refine wp_region_text [(0, true), (1, false), (2, false), (3, false), (4, true), (5, true), (6, true), (7, true), (8, false), (9, false), (10, false), (11, false), (12, true), (13, true), (14, true), (15, true), (16, false), (17, false), (18, false), (19, false), (20, false), (21, false), (22, false), (23, false), (24, false), (25, false), (26, false), (27, false), (28, false), (30, false), (29, true), (31, true), (32, true), (33, true), (34, false), (35, false), (36, false), (37, false), (38, false), (39, false), (40, false), (41, false), (42, false), (43, false), (44, false), (45, false), (46, false), (47, false), (48, false), (49, false), (50, false), (51, false)] (fun V => V.heap[ga]? = some (.cells #[.string (st [102]), .slice A1 1 c1, .int .i64 1, .bool false, .int .i64 4, .int .i64 3, .slice D1 1 1] 27 (0, 0)) ∧ V.cell? ⟨gs, 1, none⟩ = some (.slice xs.A xs.n xs.c) ∧ V.cell? ⟨gs, 3, none⟩ = some (.bool true)) (by kernel_rfl) (by kernel_rfl) (by kernel_rfl) (by kernel_rfl) (by kernel_rfl) (fun _ => ?_)
  simp only [outOf, List.getElem?_cons_zero, List.getElem?_cons_succ, Option.getD_some]
  have hS : w7.drew.heap[ga]? = some (.cells #[.string (st [102]), .slice A1 1 c1, .int .i64 1, .bool false, .int .i64 4, .int .i64 3, .slice D1 1 1] 27 (0, 0)) ∧ w7.drew.cell? ⟨gs, 1, none⟩ = some (.slice xs.A xs.n xs.c) ∧ w7.drew.cell? ⟨gs, 3, none⟩ = some (.bool true) := ⟨PA.out, by
    show w7.cell? _ = _
    rw [cell_of_row _ _ 1 _ _ _ PS.out]; rfl, by
    show w7.cell? _ = _
    rw [cell_of_row _ _ 3 _ _ _ PS.out, ← FC.out.1]; rfl⟩
  have bb := (Below.refl w7.heap.size w7).drew
  replace BA := Lib.hid (BA.out.trans (bb.mono BA.out.size))
  replace RA := Lib.hid (RA.out.step bb)
  replace HX := Lib.hid (HX.out.step bb)
  replace HE := Lib.hid (HE.out.below bb)
  clear bb PA PS
  generalize w7.drew = wn at *
  have dq : ((st [102, 46, 99, 49, 45, 49]).toList == [102, 46, 99, 49, 45, 49]) = true := by rw [ByteArray.toList_eq]; rfl
  refine TW.eff (by rfl) (fun K hK => ?_); go_simp
  refine (lives_v wn HE.out.m).mono ?_
  rintro e wn ⟨rfl, bb⟩
  replace BA := Lib.hid (BA.out.trans (bb.mono BA.out.size))
  replace RA := Lib.hid (RA.out.step bb)
  replace HX := Lib.hid (HX.out.step bb)
  replace HE := Lib.hid (HE.out.below bb)
  have hSn : wn.heap[ga]? = some (.cells #[.string (st [102]), .slice A1 1 c1, .int .i64 1, .bool false, .int .i64 4, .int .i64 3, .slice D1 1 1] 27 (0, 0)) ∧ wn.cell? ⟨gs, 1, none⟩ = some (.slice xs.A xs.n xs.c) ∧ wn.cell? ⟨gs, 3, none⟩ = some (.bool true) := ⟨hstep hS.1 bb, (bb.cell (World.block_lt_of_cell? _ _ hS.2.1)).trans hS.2.1, (bb.cell (World.block_lt_of_cell? _ _ hS.2.2)).trans hS.2.2⟩
  clear hS bb
  go_wp2_with fail; refine hK.out _ _ hSn ?_; clear hK; (try simp only [Act.put, List.setIfInBounds_toArray, List.set_cons_zero, List.set_cons_succ])
  have hS : wn.heap[ga]? = some (.cells #[.string (st [102]), .slice A1 1 c1, .int .i64 1, .bool false, .int .i64 4, .int .i64 3, .slice D1 1 1] 27 (0, 0)) ∧ wn.cell? ⟨gs, 1, none⟩ = some (.slice xs.A xs.n xs.c) ∧ wn.cell? ⟨gs, 3, none⟩ = some (.bool true) := hSn
  clear hSn
  iterate 1 ((first | (refine TW.val2 (v := ?_) ?_ ?_ ?_ ?_ ?_; rotate_left; (focus rfl); (focus (intro W hSW; (try dsimp only at hSW); (try (obtain ⟨hS1, hSW⟩ := hSW)); (try (obtain ⟨hS2, hSW⟩ := hSW)); (try (obtain ⟨hS3, hSW⟩ := hSW)); (try (obtain ⟨hS4, hSW⟩ := hSW)); (try (obtain ⟨hS5, hSW⟩ := hSW)); (try (obtain ⟨hS6, hSW⟩ := hSW)); (try (obtain ⟨hS7, hSW⟩ := hSW)); (try (obtain ⟨hS8, hSW⟩ := hSW)); go_simp; (try with_reducible rfl); done)); (focus exact fun _ _ _ h => h); (focus assumption)) | (refine TW.skip (e := false) ?_ ?_ ?_ ?_; (focus rfl); (focus exact fun _ _ _ h => h); (focus assumption))); simp only [Act.put, List.setIfInBounds_toArray, List.set_cons_zero, List.set_cons_succ])
  refine TW.val2 (v := .agg #[.string (st [102]), .slice A1 1 c1, .int .i64 1, .bool false, .int .i64 4, .int .i64 3, .slice D1 1 1]) ?_ ?_ ?_ ?_ ?_
  (focus rfl)
  (focus exact fun V hV => exec_load_slot 27 (.tmp 2) rfl ⟨ga, 0, none⟩ rfl [.string (st [102]), .slice A1 1 c1, .int .i64 1, .bool false, .int .i64 4, .int .i64 3, .slice D1 1 1] _ (rcells_at hV.1 arr_at) Tryd.underlying27 rfl HI.out)
  (focus exact fun _ _ _ h => h)
  (focus exact hS)
  simp only [Act.put, List.setIfInBounds_toArray, List.set_cons_zero, List.set_cons_succ]
  iterate 1 ((first | (refine TW.val2 (v := ?_) ?_ ?_ ?_ ?_ ?_; rotate_left; (focus rfl); (focus (intro W hSW; (try dsimp only at hSW); (try (obtain ⟨hS1, hSW⟩ := hSW)); (try (obtain ⟨hS2, hSW⟩ := hSW)); (try (obtain ⟨hS3, hSW⟩ := hSW)); (try (obtain ⟨hS4, hSW⟩ := hSW)); (try (obtain ⟨hS5, hSW⟩ := hSW)); (try (obtain ⟨hS6, hSW⟩ := hSW)); (try (obtain ⟨hS7, hSW⟩ := hSW)); (try (obtain ⟨hS8, hSW⟩ := hSW)); go_simp; (try with_reducible rfl); done)); (focus exact fun _ _ _ h => h); (focus assumption)) | (refine TW.skip (e := false) ?_ ?_ ?_ ?_; (focus rfl); (focus exact fun _ _ _ h => h); (focus assumption))); simp only [Act.put, List.setIfInBounds_toArray, List.set_cons_zero, List.set_cons_succ])
  refine TW.eff (by rfl) (fun K hK => ?_); go_simp
  refine (kat_v 2 2 _).mono ?_
  rintro e wn ⟨rfl, bb⟩
  replace BA := Lib.hid (BA.out.trans (bb.mono BA.out.size))
  replace RA := Lib.hid (RA.out.step bb)
  replace HX := Lib.hid (HX.out.step bb)
  replace HE := Lib.hid (HE.out.below bb)
  have hSn : wn.heap[ga]? = some (.cells #[.string (st [102]), .slice A1 1 c1, .int .i64 1, .bool false, .int .i64 4, .int .i64 3, .slice D1 1 1] 27 (0, 0)) ∧ wn.cell? ⟨gs, 1, none⟩ = some (.slice xs.A xs.n xs.c) ∧ wn.cell? ⟨gs, 3, none⟩ = some (.bool true) := ⟨hstep hS.1 bb, (bb.cell (World.block_lt_of_cell? _ _ hS.2.1)).trans hS.2.1, (bb.cell (World.block_lt_of_cell? _ _ hS.2.2)).trans hS.2.2⟩
  clear hS bb
  go_wp2_with fail; refine hK.out _ _ hSn ?_; clear hK; (try simp only [Act.put, List.setIfInBounds_toArray, List.set_cons_zero, List.set_cons_succ])
  have hS : wn.heap[ga]? = some (.cells #[.string (st [102]), .slice A1 1 c1, .int .i64 1, .bool false, .int .i64 4, .int .i64 3, .slice D1 1 1] 27 (0, 0)) ∧ wn.cell? ⟨gs, 1, none⟩ = some (.slice xs.A xs.n xs.c) ∧ wn.cell? ⟨gs, 3, none⟩ = some (.bool true) := hSn
  clear hSn
  refine TW.eff (by rfl) (fun K hK => ?_); go_simp
  have C := Lib.hid (show CReads (wn.alloc (.cells #[.int .i64 2, .int .u64 2] 49)) (wn.alloc (.cells #[.int .i64 2, .int .u64 2] 49)).heap.size (some ⟨wn.heap.size, 0, none⟩) 1 [(2, 2)] from Reads.more (clit wn [(2, 2)] #[.int .i64 2, .int .u64 2] 49 rfl) (by simp))
  have bb := (Below.refl wn.heap.size wn).alloc (Nat.le_refl _) (.cells #[.int .i64 2, .int .u64 2] 49)
  replace BA := Lib.hid (BA.out.trans (bb.mono BA.out.size))
  replace RA := Lib.hid (RA.out.step bb)
  replace HX := Lib.hid (HX.out.step bb)
  replace HE := Lib.hid (HE.out.below bb)
  have hSn : (wn.alloc (.cells #[.int .i64 2, .int .u64 2] 49)).heap[ga]? = some (.cells #[.string (st [102]), .slice A1 1 c1, .int .i64 1, .bool false, .int .i64 4, .int .i64 3, .slice D1 1 1] 27 (0, 0)) ∧ (wn.alloc (.cells #[.int .i64 2, .int .u64 2] 49)).cell? ⟨gs, 1, none⟩ = some (.slice xs.A xs.n xs.c) ∧ (wn.alloc (.cells #[.int .i64 2, .int .u64 2] 49)).cell? ⟨gs, 3, none⟩ = some (.bool true) := ⟨hstep hS.1 bb, (bb.cell (World.block_lt_of_cell? _ _ hS.2.1)).trans hS.2.1, (bb.cell (World.block_lt_of_cell? _ _ hS.2.2)).trans hS.2.2⟩
  clear hS bb
  generalize wn.alloc (.cells #[.int .i64 2, .int .u64 2] 49) = wb at *
  generalize wn.heap.size = gb at *
  (try (go_wp2_with fail)); refine hK.out _ _ hSn ?_; clear hK; (try simp only [Act.put, List.setIfInBounds_toArray, List.set_cons_zero, List.set_cons_succ])
  have hS : wb.heap[ga]? = some (.cells #[.string (st [102]), .slice A1 1 c1, .int .i64 1, .bool false, .int .i64 4, .int .i64 3, .slice D1 1 1] 27 (0, 0)) ∧ wb.cell? ⟨gs, 1, none⟩ = some (.slice xs.A xs.n xs.c) ∧ wb.cell? ⟨gs, 3, none⟩ = some (.bool true) := hSn
  clear hSn
  refine TW.eff (by rfl) (fun K hK => ?_); go_simp
  refine (gone_v [102] 2 (some ⟨gb, 0, none⟩) 1 1 wb.heap.size [(2, 2)] wb C.out (Nat.le_refl _) (by omega)).mono ?_
  rintro e wn ⟨A2, c2, rfl, ho, bb⟩
  have RG := Lib.hid (rcG_reads ho)
  clear ho C
  replace BA := Lib.hid (BA.out.trans (bb.mono BA.out.size))
  replace RA := Lib.hid (RA.out.step bb)
  replace HX := Lib.hid (HX.out.step bb)
  replace HE := Lib.hid (HE.out.below bb)
  have hSn : wn.heap[ga]? = some (.cells #[.string (st [102]), .slice A1 1 c1, .int .i64 1, .bool false, .int .i64 4, .int .i64 3, .slice D1 1 1] 27 (0, 0)) ∧ wn.cell? ⟨gs, 1, none⟩ = some (.slice xs.A xs.n xs.c) ∧ wn.cell? ⟨gs, 3, none⟩ = some (.bool true) := ⟨hstep hS.1 bb, (bb.cell (World.block_lt_of_cell? _ _ hS.2.1)).trans hS.2.1, (bb.cell (World.block_lt_of_cell? _ _ hS.2.2)).trans hS.2.2⟩
  clear hS bb
  go_wp2_with fail; refine hK.out _ _ hSn ?_; clear hK; (try simp only [Act.put, List.setIfInBounds_toArray, List.set_cons_zero, List.set_cons_succ])
  have hS : wn.heap[ga]? = some (.cells #[.string (st [102]), .slice A1 1 c1, .int .i64 1, .bool false, .int .i64 4, .int .i64 3, .slice D1 1 1] 27 (0, 0)) ∧ wn.cell? ⟨gs, 1, none⟩ = some (.slice xs.A xs.n xs.c) ∧ wn.cell? ⟨gs, 3, none⟩ = some (.bool true) := hSn
  clear hSn
  refine TW.eff (by rfl) (fun K hK => ?_); go_simp
  refine (does_v (rcF 1 7 [(1, 1)]) rcG ⟨A1, 1, c1, D1, 1, 1⟩ ⟨A2, 1, c2, none, 0, 0⟩ 1 3 wn.heap.size wn HE.out.m RA.out RG.out (Nat.le_refl _) exD1.1 exD1.2).mono ?_
  rintro e wn ⟨rfl, bb⟩
  clear RG
  replace BA := Lib.hid (BA.out.trans (bb.mono BA.out.size))
  replace RA := Lib.hid (RA.out.step bb)
  replace HX := Lib.hid (HX.out.step bb)
  replace HE := Lib.hid (HE.out.below bb)
  have hSn : wn.heap[ga]? = some (.cells #[.string (st [102]), .slice A1 1 c1, .int .i64 1, .bool false, .int .i64 4, .int .i64 3, .slice D1 1 1] 27 (0, 0)) ∧ wn.cell? ⟨gs, 1, none⟩ = some (.slice xs.A xs.n xs.c) ∧ wn.cell? ⟨gs, 3, none⟩ = some (.bool true) := ⟨hstep hS.1 bb, (bb.cell (World.block_lt_of_cell? _ _ hS.2.1)).trans hS.2.1, (bb.cell (World.block_lt_of_cell? _ _ hS.2.2)).trans hS.2.2⟩
  clear hS bb
  go_wp2_with fail; refine hK.out _ _ hSn ?_; clear hK; (try simp only [Act.put, List.setIfInBounds_toArray, List.set_cons_zero, List.set_cons_succ])
  have hS : wn.heap[ga]? = some (.cells #[.string (st [102]), .slice A1 1 c1, .int .i64 1, .bool false, .int .i64 4, .int .i64 3, .slice D1 1 1] 27 (0, 0)) ∧ wn.cell? ⟨gs, 1, none⟩ = some (.slice xs.A xs.n xs.c) ∧ wn.cell? ⟨gs, 3, none⟩ = some (.bool true) := hSn
  clear hSn
  iterate 2 ((first | (refine TW.val2 (v := ?_) ?_ ?_ ?_ ?_ ?_; rotate_left; (focus rfl); (focus (intro W hSW; (try dsimp only at hSW); (try (obtain ⟨hS1, hSW⟩ := hSW)); (try (obtain ⟨hS2, hSW⟩ := hSW)); (try (obtain ⟨hS3, hSW⟩ := hSW)); (try (obtain ⟨hS4, hSW⟩ := hSW)); (try (obtain ⟨hS5, hSW⟩ := hSW)); (try (obtain ⟨hS6, hSW⟩ := hSW)); (try (obtain ⟨hS7, hSW⟩ := hSW)); (try (obtain ⟨hS8, hSW⟩ := hSW)); go_simp; (try with_reducible rfl); done)); (focus exact fun _ _ _ h => h); (focus assumption)) | (refine TW.skip (e := false) ?_ ?_ ?_ ?_; (focus rfl); (focus exact fun _ _ _ h => h); (focus assumption))); simp only [Act.put, List.setIfInBounds_toArray, List.set_cons_zero, List.set_cons_succ])
  refine TW.val2 (v := .agg #[.string (st [102]), .slice A1 1 c1, .int .i64 1, .bool false, .int .i64 4, .int .i64 3, .slice D1 1 1]) ?_ ?_ ?_ ?_ ?_
  (focus rfl)
  (focus exact fun V hV => exec_load_slot 27 (.tmp 2) rfl ⟨ga, 0, none⟩ rfl [.string (st [102]), .slice A1 1 c1, .int .i64 1, .bool false, .int .i64 4, .int .i64 3, .slice D1 1 1] _ (rcells_at hV.1 arr_at) Tryd.underlying27 rfl HI.out)
  (focus exact fun _ _ _ h => h)
  (focus exact hS)
  simp only [Act.put, List.setIfInBounds_toArray, List.set_cons_zero, List.set_cons_succ]
  iterate 1 ((first | (refine TW.val2 (v := ?_) ?_ ?_ ?_ ?_ ?_; rotate_left; (focus rfl); (focus (intro W hSW; (try dsimp only at hSW); (try (obtain ⟨hS1, hSW⟩ := hSW)); (try (obtain ⟨hS2, hSW⟩ := hSW)); (try (obtain ⟨hS3, hSW⟩ := hSW)); (try (obtain ⟨hS4, hSW⟩ := hSW)); (try (obtain ⟨hS5, hSW⟩ := hSW)); (try (obtain ⟨hS6, hSW⟩ := hSW)); (try (obtain ⟨hS7, hSW⟩ := hSW)); (try (obtain ⟨hS8, hSW⟩ := hSW)); go_simp; (try with_reducible rfl); done)); (focus exact fun _ _ _ h => h); (focus assumption)) | (refine TW.skip (e := false) ?_ ?_ ?_ ?_; (focus rfl); (focus exact fun _ _ _ h => h); (focus assumption))); simp only [Act.put, List.setIfInBounds_toArray, List.set_cons_zero, List.set_cons_succ])
  refine TW.eff (by rfl) (fun K hK => ?_); go_simp
  refine (kat_v 2 2 _).mono ?_
  rintro e wn ⟨rfl, bb⟩
  replace BA := Lib.hid (BA.out.trans (bb.mono BA.out.size))
  replace RA := Lib.hid (RA.out.step bb)
  replace HX := Lib.hid (HX.out.step bb)
  replace HE := Lib.hid (HE.out.below bb)
  have hSn : wn.heap[ga]? = some (.cells #[.string (st [102]), .slice A1 1 c1, .int .i64 1, .bool false, .int .i64 4, .int .i64 3, .slice D1 1 1] 27 (0, 0)) ∧ wn.cell? ⟨gs, 1, none⟩ = some (.slice xs.A xs.n xs.c) ∧ wn.cell? ⟨gs, 3, none⟩ = some (.bool true) := ⟨hstep hS.1 bb, (bb.cell (World.block_lt_of_cell? _ _ hS.2.1)).trans hS.2.1, (bb.cell (World.block_lt_of_cell? _ _ hS.2.2)).trans hS.2.2⟩
  clear hS bb
  go_wp2_with fail; refine hK.out _ _ hSn ?_; clear hK; (try simp only [Act.put, List.setIfInBounds_toArray, List.set_cons_zero, List.set_cons_succ])
  have hS : wn.heap[ga]? = some (.cells #[.string (st [102]), .slice A1 1 c1, .int .i64 1, .bool false, .int .i64 4, .int .i64 3, .slice D1 1 1] 27 (0, 0)) ∧ wn.cell? ⟨gs, 1, none⟩ = some (.slice xs.A xs.n xs.c) ∧ wn.cell? ⟨gs, 3, none⟩ = some (.bool true) := hSn
  clear hSn
  refine TW.eff (by rfl) (fun K hK => ?_); go_simp
  have C := Lib.hid (show CReads (wn.alloc (.cells #[.int .i64 2, .int .u64 2] 49)) (wn.alloc (.cells #[.int .i64 2, .int .u64 2] 49)).heap.size (some ⟨wn.heap.size, 0, none⟩) 1 [(2, 2)] from Reads.more (clit wn [(2, 2)] #[.int .i64 2, .int .u64 2] 49 rfl) (by simp))
  have bb := (Below.refl wn.heap.size wn).alloc (Nat.le_refl _) (.cells #[.int .i64 2, .int .u64 2] 49)
  replace BA := Lib.hid (BA.out.trans (bb.mono BA.out.size))
  replace RA := Lib.hid (RA.out.step bb)
  replace HX := Lib.hid (HX.out.step bb)
  replace HE := Lib.hid (HE.out.below bb)
  have hSn : (wn.alloc (.cells #[.int .i64 2, .int .u64 2] 49)).heap[ga]? = some (.cells #[.string (st [102]), .slice A1 1 c1, .int .i64 1, .bool false, .int .i64 4, .int .i64 3, .slice D1 1 1] 27 (0, 0)) ∧ (wn.alloc (.cells #[.int .i64 2, .int .u64 2] 49)).cell? ⟨gs, 1, none⟩ = some (.slice xs.A xs.n xs.c) ∧ (wn.alloc (.cells #[.int .i64 2, .int .u64 2] 49)).cell? ⟨gs, 3, none⟩ = some (.bool true) := ⟨hstep hS.1 bb, (bb.cell (World.block_lt_of_cell? _ _ hS.2.1)).trans hS.2.1, (bb.cell (World.block_lt_of_cell? _ _ hS.2.2)).trans hS.2.2⟩
  clear hS bb
  generalize wn.alloc (.cells #[.int .i64 2, .int .u64 2] 49) = wb at *
  generalize wn.heap.size = gb at *
  (try (go_wp2_with fail)); refine hK.out _ _ hSn ?_; clear hK; (try simp only [Act.put, List.setIfInBounds_toArray, List.set_cons_zero, List.set_cons_succ])
  have hS : wb.heap[ga]? = some (.cells #[.string (st [102]), .slice A1 1 c1, .int .i64 1, .bool false, .int .i64 4, .int .i64 3, .slice D1 1 1] 27 (0, 0)) ∧ wb.cell? ⟨gs, 1, none⟩ = some (.slice xs.A xs.n xs.c) ∧ wb.cell? ⟨gs, 3, none⟩ = some (.bool true) := hSn
  clear hSn
  refine TW.eff (by rfl) (fun K hK => ?_); go_simp
  refine (filled_v [102] 2 7 (some ⟨gb, 0, none⟩) 1 1 wb.heap.size [(2, 2)] wb C.out (Nat.le_refl _) (by omega)).mono ?_
  rintro e wn ⟨A2, c2, D2, rfl, ho, hd, bb⟩
  have RG := Lib.hid (rcF_reads (dv := 2) ho hd (by omega) (fit1 2 2 2 (by omega)))
  clear ho hd C
  replace BA := Lib.hid (BA.out.trans (bb.mono BA.out.size))
  replace RA := Lib.hid (RA.out.step bb)
  replace HX := Lib.hid (HX.out.step bb)
  replace HE := Lib.hid (HE.out.below bb)
  have hSn : wn.heap[ga]? = some (.cells #[.string (st [102]), .slice A1 1 c1, .int .i64 1, .bool false, .int .i64 4, .int .i64 3, .slice D1 1 1] 27 (0, 0)) ∧ wn.cell? ⟨gs, 1, none⟩ = some (.slice xs.A xs.n xs.c) ∧ wn.cell? ⟨gs, 3, none⟩ = some (.bool true) := ⟨hstep hS.1 bb, (bb.cell (World.block_lt_of_cell? _ _ hS.2.1)).trans hS.2.1, (bb.cell (World.block_lt_of_cell? _ _ hS.2.2)).trans hS.2.2⟩
  clear hS bb
  go_wp2_with fail; refine hK.out _ _ hSn ?_; clear hK; (try simp only [Act.put, List.setIfInBounds_toArray, List.set_cons_zero, List.set_cons_succ])
  have hS : wn.heap[ga]? = some (.cells #[.string (st [102]), .slice A1 1 c1, .int .i64 1, .bool false, .int .i64 4, .int .i64 3, .slice D1 1 1] 27 (0, 0)) ∧ wn.cell? ⟨gs, 1, none⟩ = some (.slice xs.A xs.n xs.c) ∧ wn.cell? ⟨gs, 3, none⟩ = some (.bool true) := hSn
  clear hSn
  refine TW.eff (by rfl) (fun K hK => ?_); go_simp
  refine (does_v (rcF 1 7 [(1, 1)]) (rcF 2 7 [(2, 2)]) ⟨A1, 1, c1, D1, 1, 1⟩ ⟨A2, 1, c2, D2, 1, 1⟩ 1 2 wn.heap.size wn HE.out.m RA.out RG.out (Nat.le_refl _) exD2.1 exD2.2).mono ?_
  rintro e wn ⟨rfl, bb⟩
  clear RG
  replace BA := Lib.hid (BA.out.trans (bb.mono BA.out.size))
  replace RA := Lib.hid (RA.out.step bb)
  replace HX := Lib.hid (HX.out.step bb)
  replace HE := Lib.hid (HE.out.below bb)
  have hSn : wn.heap[ga]? = some (.cells #[.string (st [102]), .slice A1 1 c1, .int .i64 1, .bool false, .int .i64 4, .int .i64 3, .slice D1 1 1] 27 (0, 0)) ∧ wn.cell? ⟨gs, 1, none⟩ = some (.slice xs.A xs.n xs.c) ∧ wn.cell? ⟨gs, 3, none⟩ = some (.bool true) := ⟨hstep hS.1 bb, (bb.cell (World.block_lt_of_cell? _ _ hS.2.1)).trans hS.2.1, (bb.cell (World.block_lt_of_cell? _ _ hS.2.2)).trans hS.2.2⟩
  clear hS bb
  go_wp2_with fail; refine hK.out _ _ hSn ?_; clear hK; (try simp only [Act.put, List.setIfInBounds_toArray, List.set_cons_zero, List.set_cons_succ])
  have hS : wn.heap[ga]? = some (.cells #[.string (st [102]), .slice A1 1 c1, .int .i64 1, .bool false, .int .i64 4, .int .i64 3, .slice D1 1 1] 27 (0, 0)) ∧ wn.cell? ⟨gs, 1, none⟩ = some (.slice xs.A xs.n xs.c) ∧ wn.cell? ⟨gs, 3, none⟩ = some (.bool true) := hSn
  clear hSn
  iterate 14 ((first | (refine TW.val2 (v := ?_) ?_ ?_ ?_ ?_ ?_; rotate_left; (focus rfl); (focus (intro W hSW; (try dsimp only at hSW); (try (obtain ⟨hS1, hSW⟩ := hSW)); (try (obtain ⟨hS2, hSW⟩ := hSW)); (try (obtain ⟨hS3, hSW⟩ := hSW)); (try (obtain ⟨hS4, hSW⟩ := hSW)); (try (obtain ⟨hS5, hSW⟩ := hSW)); (try (obtain ⟨hS6, hSW⟩ := hSW)); (try (obtain ⟨hS7, hSW⟩ := hSW)); (try (obtain ⟨hS8, hSW⟩ := hSW)); go_simp; (try with_reducible rfl); done)); (focus exact fun _ _ _ h => h); (focus assumption)) | (refine TW.skip (e := false) ?_ ?_ ?_ ?_; (focus rfl); (focus exact fun _ _ _ h => h); (focus assumption))); simp only [Act.put, List.setIfInBounds_toArray, List.set_cons_zero, List.set_cons_succ])
  refine TW.eff (by rfl) (fun K hK => ?_); go_simp
  refine (kat_v 1 1 _).mono ?_
  rintro e wn ⟨rfl, bb⟩
  replace BA := Lib.hid (BA.out.trans (bb.mono BA.out.size))
  replace RA := Lib.hid (RA.out.step bb)
  replace HX := Lib.hid (HX.out.step bb)
  replace HE := Lib.hid (HE.out.below bb)
  have hSn : wn.heap[ga]? = some (.cells #[.string (st [102]), .slice A1 1 c1, .int .i64 1, .bool false, .int .i64 4, .int .i64 3, .slice D1 1 1] 27 (0, 0)) ∧ wn.cell? ⟨gs, 1, none⟩ = some (.slice xs.A xs.n xs.c) ∧ wn.cell? ⟨gs, 3, none⟩ = some (.bool true) := ⟨hstep hS.1 bb, (bb.cell (World.block_lt_of_cell? _ _ hS.2.1)).trans hS.2.1, (bb.cell (World.block_lt_of_cell? _ _ hS.2.2)).trans hS.2.2⟩
  clear hS bb
  go_wp2_with fail; refine hK.out _ _ hSn ?_; clear hK; (try simp only [Act.put, List.setIfInBounds_toArray, List.set_cons_zero, List.set_cons_succ])
  have hS : wn.heap[ga]? = some (.cells #[.string (st [102]), .slice A1 1 c1, .int .i64 1, .bool false, .int .i64 4, .int .i64 3, .slice D1 1 1] 27 (0, 0)) ∧ wn.cell? ⟨gs, 1, none⟩ = some (.slice xs.A xs.n xs.c) ∧ wn.cell? ⟨gs, 3, none⟩ = some (.bool true) := hSn
  clear hSn
  refine TW.eff (by rfl) (fun K hK => ?_); go_simp
  refine (kat_v 2 2 _).mono ?_
  rintro e wn ⟨rfl, bb⟩
  replace BA := Lib.hid (BA.out.trans (bb.mono BA.out.size))
  replace RA := Lib.hid (RA.out.step bb)
  replace HX := Lib.hid (HX.out.step bb)
  replace HE := Lib.hid (HE.out.below bb)
  have hSn : wn.heap[ga]? = some (.cells #[.string (st [102]), .slice A1 1 c1, .int .i64 1, .bool false, .int .i64 4, .int .i64 3, .slice D1 1 1] 27 (0, 0)) ∧ wn.cell? ⟨gs, 1, none⟩ = some (.slice xs.A xs.n xs.c) ∧ wn.cell? ⟨gs, 3, none⟩ = some (.bool true) := ⟨hstep hS.1 bb, (bb.cell (World.block_lt_of_cell? _ _ hS.2.1)).trans hS.2.1, (bb.cell (World.block_lt_of_cell? _ _ hS.2.2)).trans hS.2.2⟩
  clear hS bb
  go_wp2_with fail; refine hK.out _ _ hSn ?_; clear hK; (try simp only [Act.put, List.setIfInBounds_toArray, List.set_cons_zero, List.set_cons_succ])
  have hS : wn.heap[ga]? = some (.cells #[.string (st [102]), .slice A1 1 c1, .int .i64 1, .bool false, .int .i64 4, .int .i64 3, .slice D1 1 1] 27 (0, 0)) ∧ wn.cell? ⟨gs, 1, none⟩ = some (.slice xs.A xs.n xs.c) ∧ wn.cell? ⟨gs, 3, none⟩ = some (.bool true) := hSn
  clear hSn
  refine TW.eff (by rfl) (fun K hK => ?_); go_simp
  have C := Lib.hid (show CReads (wn.alloc (.cells #[.int .i64 1, .int .u64 1, .int .i64 2, .int .u64 2] 49)) (wn.alloc (.cells #[.int .i64 1, .int .u64 1, .int .i64 2, .int .u64 2] 49)).heap.size (some ⟨wn.heap.size, 0, none⟩) 2 [(1, 1), (2, 2)] from Reads.more (clit wn [(1, 1), (2, 2)] #[.int .i64 1, .int .u64 1, .int .i64 2, .int .u64 2] 49 rfl) (by simp))
  have bb := (Below.refl wn.heap.size wn).alloc (Nat.le_refl _) (.cells #[.int .i64 1, .int .u64 1, .int .i64 2, .int .u64 2] 49)
  replace BA := Lib.hid (BA.out.trans (bb.mono BA.out.size))
  replace RA := Lib.hid (RA.out.step bb)
  replace HX := Lib.hid (HX.out.step bb)
  replace HE := Lib.hid (HE.out.below bb)
  have hSn : (wn.alloc (.cells #[.int .i64 1, .int .u64 1, .int .i64 2, .int .u64 2] 49)).heap[ga]? = some (.cells #[.string (st [102]), .slice A1 1 c1, .int .i64 1, .bool false, .int .i64 4, .int .i64 3, .slice D1 1 1] 27 (0, 0)) ∧ (wn.alloc (.cells #[.int .i64 1, .int .u64 1, .int .i64 2, .int .u64 2] 49)).cell? ⟨gs, 1, none⟩ = some (.slice xs.A xs.n xs.c) ∧ (wn.alloc (.cells #[.int .i64 1, .int .u64 1, .int .i64 2, .int .u64 2] 49)).cell? ⟨gs, 3, none⟩ = some (.bool true) := ⟨hstep hS.1 bb, (bb.cell (World.block_lt_of_cell? _ _ hS.2.1)).trans hS.2.1, (bb.cell (World.block_lt_of_cell? _ _ hS.2.2)).trans hS.2.2⟩
  clear hS bb
  generalize wn.alloc (.cells #[.int .i64 1, .int .u64 1, .int .i64 2, .int .u64 2] 49) = wb at *
  generalize wn.heap.size = gb at *
  (try (go_wp2_with fail)); refine hK.out _ _ hSn ?_; clear hK; (try simp only [Act.put, List.setIfInBounds_toArray, List.set_cons_zero, List.set_cons_succ])
  have hS : wb.heap[ga]? = some (.cells #[.string (st [102]), .slice A1 1 c1, .int .i64 1, .bool false, .int .i64 4, .int .i64 3, .slice D1 1 1] 27 (0, 0)) ∧ wb.cell? ⟨gs, 1, none⟩ = some (.slice xs.A xs.n xs.c) ∧ wb.cell? ⟨gs, 3, none⟩ = some (.bool true) := hSn
  clear hSn
  refine TW.eff (by rfl) (fun K hK => ?_); go_simp
  refine (same_v wb.heap.size xs.A (some ⟨gb, 0, none⟩) xs.n xs.c 2 2 x0.v [(1, 1), (2, 2)] wb HX.out.cs C.out (Nat.le_refl _) (by have := HX.out.hn; omega)).mono ?_
  rintro e wn ⟨rfl, bb⟩
  rw [decide_eq_true FC.out.2]
  clear C
  replace BA := Lib.hid (BA.out.trans (bb.mono BA.out.size))
  replace RA := Lib.hid (RA.out.step bb)
  replace HX := Lib.hid (HX.out.step bb)
  replace HE := Lib.hid (HE.out.below bb)
  have hSn : wn.heap[ga]? = some (.cells #[.string (st [102]), .slice A1 1 c1, .int .i64 1, .bool false, .int .i64 4, .int .i64 3, .slice D1 1 1] 27 (0, 0)) ∧ wn.cell? ⟨gs, 1, none⟩ = some (.slice xs.A xs.n xs.c) ∧ wn.cell? ⟨gs, 3, none⟩ = some (.bool true) := ⟨hstep hS.1 bb, (bb.cell (World.block_lt_of_cell? _ _ hS.2.1)).trans hS.2.1, (bb.cell (World.block_lt_of_cell? _ _ hS.2.2)).trans hS.2.2⟩
  clear hS bb
  go_wp2_with fail; refine hK.out _ _ hSn ?_; clear hK; (try simp only [Act.put, List.setIfInBounds_toArray, List.set_cons_zero, List.set_cons_succ])
  have hS : wn.heap[ga]? = some (.cells #[.string (st [102]), .slice A1 1 c1, .int .i64 1, .bool false, .int .i64 4, .int .i64 3, .slice D1 1 1] 27 (0, 0)) ∧ wn.cell? ⟨gs, 1, none⟩ = some (.slice xs.A xs.n xs.c) ∧ wn.cell? ⟨gs, 3, none⟩ = some (.bool true) := hSn
  clear hSn
  iterate 18 ((first | (refine TW.val2 (v := ?_) ?_ ?_ ?_ ?_ ?_; rotate_left; (focus rfl); (focus (intro W hSW; (try dsimp only at hSW); (try (obtain ⟨hS1, hSW⟩ := hSW)); (try (obtain ⟨hS2, hSW⟩ := hSW)); (try (obtain ⟨hS3, hSW⟩ := hSW)); (try (obtain ⟨hS4, hSW⟩ := hSW)); (try (obtain ⟨hS5, hSW⟩ := hSW)); (try (obtain ⟨hS6, hSW⟩ := hSW)); (try (obtain ⟨hS7, hSW⟩ := hSW)); (try (obtain ⟨hS8, hSW⟩ := hSW)); go_simp; (try with_reducible rfl); done)); (focus exact fun _ _ _ h => h); (focus assumption)) | (refine TW.skip (e := false) ?_ ?_ ?_ ?_; (focus rfl); (focus exact fun _ _ _ h => h); (focus assumption))); simp only [Act.put, List.setIfInBounds_toArray, List.set_cons_zero, List.set_cons_succ])
  refine TW.done ?_
  go_wp2
  go_ret
  exact ⟨rfl, BA.out⟩
end Go.Proofs.YtndekohimfjdeaaDoor
