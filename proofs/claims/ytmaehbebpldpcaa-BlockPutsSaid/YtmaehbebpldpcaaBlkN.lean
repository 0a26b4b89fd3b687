/-
  Blocks: slices.Backward of lists and of digests.
-/
import Derived.Test.YtmaehbebpldpcaaBlkL
import Derived.Test.YtmaehbebpldpcaaTextI
import Derived.RangeFuncNested
import Derived.RangeFuncBox
namespace Go.Proofs.Ytmaehbebpldpcaa
open Go.RowKit Go.Shelf
attribute [local go_sem] Oper.semAt_some
section
variable {F : Fence} {n : Nat} {P : Program} {ops : Array Oper} {rest : List Oper} {o : Oper} {a : Act} {w : World} {Q : Exit → Act → World → Prop}
theorem wpListIn_load_slot (hgd : o.guard = none) (ty : TypeId) (x : Operand) (ho : o.op = .load ty x)
    (ad : Addr) (hx : a.eval x = .pointer (some ad)) (vs : List Value) (d : TypeDesc) (hc : ∀ j v, vs[j]? = some v → w.cell? (ad.add j) = some v)
    (hu : P.underlying ty = some d) (hd : (match d with | .struct _ | .array _ _ => true | _ => false) = true) (hi : (P.info? ty).map (·.size) = some vs.length)
    (h : wpListIn F n P ops Q rest (a.put o.dst (.agg vs.toArray)) w) : wpListIn F n P ops Q (o :: rest) a w := by
  refine wpListIn_plain hgd fun K hK => ?_
  unfold Oper.wpIn
  refine ⟨by simp [Oper.about, ho], ?_⟩
  rw [Oper.semAt_plain F _ _ (by rw [ho]; intro c hc'; cases hc')]
  rw [exec_load_slot ty x ho ad hx vs d hc hu hd hi]
  exact hK _ _ h
theorem wpListIn_append_any (hgd : o.guard = none) (s x : Operand) (t : TypeId)
    (ho : o.op = .call { callee := .builtin .append, args := #[s, x], argTypes := #[t, t] })
    (base : Nat) (e : TypeId) (i : TypeInfo) (z : Value) (size bytes : Nat) (ht : P.underlying t = some (.slice e)) (hi : P.info? e = some i) (hz : i.zero = some z)
    (hsize : i.size = size) (hby : i.bytes = bytes) (hzs : z.cells.size = size) (hsz : 0 < size)
    (v : Value) (k : Nat) (xs : List Value) (hs : a.eval s = v) (hown : w.ownsRow base e size v k xs)
    (B : Nat) (A : Option Addr) (m c : Nat) (news : List Value) (hx : a.eval x = .slice A m c) (hr : Reads w B size A m news) (h1 : ∀ u ∈ news, u.oneCell' = true)
    (h63 : k + m ≤ maxLen) (hbytes : (k + m) * bytes ≤ 140737488355328) (hbase : base ≤ w.heap.size)
    (h : ∀ v' w', w'.ownsRow base e size v' (k + m) (xs ++ news) → w.grownBy w' v.ownBlock → (v'.ownBlock = v.ownBlock ∨ v'.ownBlock = some w.heap.size) → wpListIn F n P ops Q rest (a.put o.dst v') w') : wpListIn F n P ops Q (o :: rest) a w := by
  refine wpListIn_plain hgd fun K hK => ?_
  obtain ⟨v', w', hrun, h2, h3, h4⟩ := run_append_any (P := P) w base t o.type e i z size bytes ht hi hz hsize hby hzs hsz v k xs hown B A m c news hr h1 h63 hbytes hbase
  unfold Oper.wpIn
  refine ⟨?_, ?_⟩
  · simp [Oper.about, ho, resolve, Target.leads, Sem.run_pure]
  · rw [Oper.semAt_plain F _ _ (by rw [ho]; intro c hc'; cases hc')]
    simp only [execOp, ho, resolve, invoke, builtin, Sem.run_bind, Sem.run_pure, Result.andThen_ok, List.map_toArray, List.map_cons, List.map_nil, hs, hx, hrun]
    exact hK _ _ (h v' w' h2 h3 h4)
end
/-- The element at k. -/
def gD {α : Type} [Inhabited α] (ls : List α) (k : Nat) : α := ls.getD k default
theorem gD_some {α : Type} [Inhabited α] {ls : List α} {k : Nat} (h : k < ls.length) : ls[k]? = some (gD ls k) := by
  unfold gD
  rw [List.getD_eq_getElem?_getD, List.getElem?_eq_getElem h]
  rfl
theorem cell_congr {w w' : World} {b : Nat} (h : w'.heap[b]? = w.heap[b]?) (j : Nat) : w'.cell? ⟨b, j, none⟩ = w.cell? ⟨b, j, none⟩ := by
  unfold World.cell?
  simp only [h]
theorem rev_at {n k i : Nat} (h : i + 1 + k = n) : (List.range n).reverse[k]? = some i := by
  rw [List.getElem?_reverse (by simp; omega), List.length_range, List.getElem?_range (by omega)]
  congr 1
  omega
set_option maxHeartbeats 1000000 in
theorem backL_v (A : Option Addr) (n c : Nat) (w : World) :
    CallsIn Fence.wide 5 Try.prog 40 #[.slice A n c] w fun e w' =>
      e = .returned (.func (.func 54) #[] #[.pointer (some ⟨w.heap.size, 0, none⟩)]) ∧ w' = w.alloc (.cells #[.slice A n c] 45) := by
  refine callsIn_of_wp Try.func40 rfl trivial ?_ rfl
  simp only [Try.ntmps40, List.size_toArray, List.length_cons, List.length_nil, Nat.reduceAdd, Nat.reduceSub, Array.replicate_succ, Array.replicate_zero, List.push_toArray, List.append_toArray, List.nil_append, List.cons_append]
  gi_wp2
  go_ret
  exact ⟨rfl, rfl⟩
set_option maxRecDepth 100000 in
set_option maxHeartbeats 4000000 in
theorem backL_stops (b B : Nat) (A : Option Addr) (n c : Nat) (ls : List LX) (w : World) (m : Nat) (hb : b < w.heap.size) (hcb : w.cell? ⟨b, 0, none⟩ = some (.slice A n c))
    (hr : Reads w B 3 A n (ls.flatMap LX.cells)) (hB : B ≤ w.heap.size) (hn : n ≤ 4503599627370496) :
    SeqStopsK Fence.wide m Try.prog 54 #[.pointer (some ⟨b, 0, none⟩)] (fun x : Ix n => #[.int .i64 (x.1 : Int), .agg (gD ls x.1).cells.toArray]) (fun W W' => Below B W W' ∧ W'.heap[b]? = W.heap[b]?)
      (fun xs => xs.map (·.1) = (List.range n).reverse) (fun _ => True) n w := fun l J Jx W hW hJ hJx hY h0 => by
  have wcb : W.cell? ⟨b, 0, none⟩ = some (.slice A n c) := (hW.cell (p := ⟨b, 0, none⟩) hb).trans hcb
  have HI := Lib.hid (show (Try.prog.info? 24).map (·.size) = some 3 by kernel_rfl)
  have HR := Lib.hid hr
  have HW := Lib.hid hW
  have HLN := Lib.hid (show ls.length = n by have h1 := hr.1; rw [flat_len LX.cells_len] at h1; omega)
  have HB := Lib.hid hcb
  clear hcb hr hW
  refine callsIn_of_wp Try.func54 rfl trivial ?_ rfl
  simp only [Try.ntmps54, List.size_toArray, List.length_cons, List.length_nil, Nat.reduceAdd, Nat.reduceSub, Array.replicate_succ, Array.replicate_zero, List.push_toArray, List.append_toArray, List.nil_append, List.cons_append]
  have hw0 : IntKind.i64.wrap ((n : Int) - 1) = (n : Int) - 1 := IntWalk.i64_in _ ⟨by omega, by omega⟩
  gi_wp2
  clear wcb
  gi_loopw [3] (fun iv wr => ∃ (i k : Nat) (pre : List (Ix n)), i + k = n ∧ iv = .int .i64 ((i : Int) - 1) ∧ pre.map (·.1) = (List.range n).reverse.take k ∧ J pre wr ∧ Below B w wr ∧ wr.heap[b]? = w.heap[b]?) (fun iv _ => (intOf iv + 1).toNat)
  case atStart => exact ⟨n, 0, [], rfl, rfl, by simp, h0, HW.out.mono hB, HW.out.block b hb⟩
  case round =>
    obtain ⟨i, k, pre, hik, rfl, hpre, hJs, hbw, hbb⟩ := hrel
    have HPRE := Lib.hid hpre
    have HJS := Lib.hid hJs
    have HBW := Lib.hid hbw
    have HBB := Lib.hid hbb
    have hplen : pre.length = k := by
      have := congrArg List.length hpre
      simp at this
      omega
    have wcb : wr.cell? ⟨b, 0, none⟩ = some (.slice A n c) := (cell_congr hbb 0).trans HB.out
    clear hpre hJs hbw hbb
    cases i with
    | zero =>
      gi_wp2
      go_end0
      obtain rfl : k = n := by omega
      exact ⟨⟨_, rfl⟩, .inl ⟨pre, by rw [HPRE.out, List.take_of_length_le (by simp)], HJS.out⟩⟩
    | succ i =>
      rw [show ((i + 1 : Nat) : Int) - 1 = (i : Int) by omega]
      have hin : i < n := by omega
      obtain ⟨ad, rfl, hbl, hcell⟩ := HR.out.2 (by omega)
      have HC := Lib.hid (show ∀ j v, (gD ls i).cells[j]? = some v → wr.cell? ((ad.add (i * 3)).add j) = some v from fun j v hv => by
        have hj : j < 3 := by have := (List.getElem?_eq_some_iff.1 hv).1; rwa [LX.cells_len] at this
        have hx : ls[i]? = some (gD ls i) := gD_some (by rw [HLN.out]; exact hin)
        have h1 := hcell (i * 3 + j) v (by rw [flat_at LX.cells_len ls hx hj]; exact hv)
        rw [add_of_add]
        refine (HBW.out.cell ?_).trans h1
        rw [block_of_add]
        exact hbl)
      have HIS := Lib.hid (show (Try.prog.info? 24).map (·.size) = some (gD ls i).cells.length by rw [LX.cells_len]; exact HI.out)
      have k0 : (0 : Int) ≤ (i : Int) := by omega
      have d0 : decide ((0 : Int) ≤ (i : Int)) = true := by simp
      have hw1 : IntKind.i64.wrap ((i : Int) - 1) = (i : Int) - 1 := IntWalk.i64_in _ ⟨by omega, by omega⟩
      obtain ⟨fn, tmps, assign, body, hy, hR⟩ := hY pre ⟨i, hin⟩ wr HJS.out (by omega)
      have hik' : i + (k + 1) = n := by omega
      have HST := Lib.hid (show pre.map (·.1) ++ [i] = (List.range n).reverse.take (k + 1) by rw [HPRE.out, List.take_add_one, rev_at (by omega)]; rfl)
      clear hcell hik
      gi_wp2_with (first
        | (refine wpListIn_load_slot rfl 24 (.tmp 15) rfl (ad.add (i * 3)) rfl (gD ls i).cells _ HC.out Try.underlying24 rfl HIS.out ?_)
        | fail)
      refine ⟨fun h => by simp [Fence.wide] at h, hR.mono ?_⟩
      rintro e1 W3 (⟨rfl, hJ3, hk3⟩ | ⟨rfl, hJx3⟩)
      · have HB5 := Lib.hid (HBW.out.trans hk3.1)
        have HBB5 := Lib.hid (hk3.2.trans HBB.out)
        gi_wp2
        go_roundw
        case rel => exact ⟨i, k + 1, pre ++ [⟨i, hin⟩], hik', by go_num, by rw [List.map_append]; exact HST.out, hJ3, HB5.out, HBB5.out⟩
        case measure => simp [intOf]
      · gi_wp2
        refine bodyPost_ret (results_none rfl _ _ _) rfl ?_
        exact ⟨⟨_, rfl⟩, .inr ⟨_, trivial, hJx3⟩⟩
set_option maxHeartbeats 1000000 in
theorem backD_v (A : Option Addr) (n c : Nat) (w : World) :
    CallsIn Fence.wide 5 Try.prog 41 #[.slice A n c] w fun e w' =>
      e = .returned (.func (.func 55) #[] #[.pointer (some ⟨w.heap.size, 0, none⟩)]) ∧ w' = w.alloc (.cells #[.slice A n c] 22) := by
  refine callsIn_of_wp Try.func41 rfl trivial ?_ rfl
  simp only [Try.ntmps41, List.size_toArray, List.length_cons, List.length_nil, Nat.reduceAdd, Nat.reduceSub, Array.replicate_succ, Array.replicate_zero, List.push_toArray, List.append_toArray, List.nil_append, List.cons_append]
  gi_wp2
  go_ret
  exact ⟨rfl, rfl⟩
set_option maxRecDepth 100000 in
set_option maxHeartbeats 4000000 in
theorem backD_stops (b B : Nat) (A : Option Addr) (n c : Nat) (ls : List Dg) (w : World) (m : Nat) (hb : b < w.heap.size) (hcb : w.cell? ⟨b, 0, none⟩ = some (.slice A n c))
    (hr : Reads w B 32 A n (ls.flatMap Dg.cells)) (hB : B ≤ w.heap.size) (hn : n ≤ 4503599627370496) :
    SeqStopsK Fence.wide m Try.prog 55 #[.pointer (some ⟨b, 0, none⟩)] (fun x : Ix n => #[.int .i64 (x.1 : Int), .agg (gD ls x.1).cells.toArray]) (fun W W' => Below B W W' ∧ W'.heap[b]? = W.heap[b]?)
      (fun xs => xs.map (·.1) = (List.range n).reverse) (fun _ => True) n w := fun l J Jx W hW hJ hJx hY h0 => by
  have wcb : W.cell? ⟨b, 0, none⟩ = some (.slice A n c) := (hW.cell (p := ⟨b, 0, none⟩) hb).trans hcb
  have HI := Lib.hid (show (Try.prog.info? 59).map (·.size) = some 32 by kernel_rfl)
  have HR := Lib.hid hr
  have HW := Lib.hid hW
  have HLN := Lib.hid (show ls.length = n by have h1 := hr.1; rw [flat_len Dg.cells_len] at h1; omega)
  have HB := Lib.hid hcb
  clear hcb hr hW
  refine callsIn_of_wp Try.func55 rfl trivial ?_ rfl
  simp only [Try.ntmps55, List.size_toArray, List.length_cons, List.length_nil, Nat.reduceAdd, Nat.reduceSub, Array.replicate_succ, Array.replicate_zero, List.push_toArray, List.append_toArray, List.nil_append, List.cons_append]
  have hw0 : IntKind.i64.wrap ((n : Int) - 1) = (n : Int) - 1 := IntWalk.i64_in _ ⟨by omega, by omega⟩
  gi_wp2
  clear wcb
  gi_loopw [3] (fun iv wr => ∃ (i k : Nat) (pre : List (Ix n)), i + k = n ∧ iv = .int .i64 ((i : Int) - 1) ∧ pre.map (·.1) = (List.range n).reverse.take k ∧ J pre wr ∧ Below B w wr ∧ wr.heap[b]? = w.heap[b]?) (fun iv _ => (intOf iv + 1).toNat)
  case atStart => exact ⟨n, 0, [], rfl, rfl, by simp, h0, HW.out.mono hB, HW.out.block b hb⟩
  case round =>
    obtain ⟨i, k, pre, hik, rfl, hpre, hJs, hbw, hbb⟩ := hrel
    have HPRE := Lib.hid hpre
    have HJS := Lib.hid hJs
    have HBW := Lib.hid hbw
    have HBB := Lib.hid hbb
    have hplen : pre.length = k := by
      have := congrArg List.length hpre
      simp at this
      omega
    have wcb : wr.cell? ⟨b, 0, none⟩ = some (.slice A n c) := (cell_congr hbb 0).trans HB.out
    clear hpre hJs hbw hbb
    cases i with
    | zero =>
      gi_wp2
      go_end0
      obtain rfl : k = n := by omega
      exact ⟨⟨_, rfl⟩, .inl ⟨pre, by rw [HPRE.out, List.take_of_length_le (by simp)], HJS.out⟩⟩
    | succ i =>
      rw [show ((i + 1 : Nat) : Int) - 1 = (i : Int) by omega]
      have hin : i < n := by omega
      obtain ⟨ad, rfl, hbl, hcell⟩ := HR.out.2 (by omega)
      have HC := Lib.hid (show ∀ j v, (gD ls i).cells[j]? = some v → wr.cell? ((ad.add (i * 32)).add j) = some v from fun j v hv => by
        have hj : j < 32 := by have := (List.getElem?_eq_some_iff.1 hv).1; rwa [Dg.cells_len] at this
        have hx : ls[i]? = some (gD ls i) := gD_some (by rw [HLN.out]; exact hin)
        have h1 := hcell (i * 32 + j) v (by rw [flat_at Dg.cells_len ls hx hj]; exact hv)
        rw [add_of_add]
        refine (HBW.out.cell ?_).trans h1
        rw [block_of_add]
        exact hbl)
      have HIS := Lib.hid (show (Try.prog.info? 59).map (·.size) = some (gD ls i).cells.length by rw [Dg.cells_len]; exact HI.out)
      have k0 : (0 : Int) ≤ (i : Int) := by omega
      have d0 : decide ((0 : Int) ≤ (i : Int)) = true := by simp
      have hw1 : IntKind.i64.wrap ((i : Int) - 1) = (i : Int) - 1 := IntWalk.i64_in _ ⟨by omega, by omega⟩
      obtain ⟨fn, tmps, assign, body, hy, hR⟩ := hY pre ⟨i, hin⟩ wr HJS.out (by omega)
      have hik' : i + (k + 1) = n := by omega
      have HST := Lib.hid (show pre.map (·.1) ++ [i] = (List.range n).reverse.take (k + 1) by rw [HPRE.out, List.take_add_one, rev_at (by omega)]; rfl)
      clear hcell hik
      gi_wp2_with (first
        | (refine wpListIn_load_slot rfl 59 (.tmp 15) rfl (ad.add (i * 32)) rfl (gD ls i).cells _ HC.out Try.underlying59 rfl HIS.out ?_)
        | fail)
      refine ⟨fun h => by simp [Fence.wide] at h, hR.mono ?_⟩
      rintro e1 W3 (⟨rfl, hJ3, hk3⟩ | ⟨rfl, hJx3⟩)
      · have HB5 := Lib.hid (HBW.out.trans hk3.1)
        have HBB5 := Lib.hid (hk3.2.trans HBB.out)
        gi_wp2
        go_roundw
        case rel => exact ⟨i, k + 1, pre ++ [⟨i, hin⟩], hik', by go_num, by rw [List.map_append]; exact HST.out, hJ3, HB5.out, HBB5.out⟩
        case measure => simp [intOf]
      · gi_wp2
        refine bodyPost_ret (results_none rfl _ _ _) rfl ?_
        exact ⟨⟨_, rfl⟩, .inr ⟨_, trivial, hJx3⟩⟩
end Go.Proofs.Ytmaehbebpldpcaa
