/-
  Nets: maps by the numbers of packets.
-/
import Derived.Test.YthajlhifgafpkaaNetZj
import Derived.Test.YthajlhifgafpkaaNetZk
import Derived.WideLaws
namespace Go.Proofs.Ythajlhifgafpkaa
open Go.RowKit Go.Shelf
def ekU (x : Nat) : Value := .int .u64 (x : Int)
def evB (x : Bool) : Value := .bool x
def evP (x : PkV) : Value := .agg x.cells.toArray
theorem ekU_inj (x y : Nat) (h : ekU x = ekU y) : x = y := by unfold ekU at h; injection h with _ h; omega
theorem wfU {x : Nat} (h : x < 18446744073709551616) : (Lit.int .u64 (x : Int)).wf = true := by
  have e1 : IntKind.u64.min = 0 := by decide
  have e2 : IntKind.u64.max = 18446744073709551615 := by decide
  simp only [Lit.wf, e1, e2, Bool.and_eq_true, decide_eq_true_eq]
  omega
abbrev GMap (W : World) (b : Nat) (E : List (Nat × Bool)) : Prop := MapIs Try.prog 28 ekU evB W b E
abbrev SMap (W : World) (b : Nat) (E : List (Nat × PkV)) : Prop := MapIs Try.prog 28 ekU evP W b E
theorem MapIs.isMap {α β : Type} {P : Program} {k : TypeId} {ek : α → Value} {ev : β → Value} {W : World} {b : Nat} {E : List (α × β)} (h : MapIs P k ek ev W b E) : ∃ es ck, W.heap[b]? = some (.map es ck) ∧ es.size = E.length := by
  obtain ⟨es, ck, hb, hm, _⟩ := h
  refine ⟨es, ck, hb, ?_⟩
  have := congrArg List.length hm
  simpa using this
section
variable {w : World} {b : Nat} {E : List (Nat × Bool)} {S : List (Nat × PkV)}
theorem GMap.look_ (h : GMap w b E) (x : Nat) (hx : x < 18446744073709551616) :
    (Instr.lookup 41 (.map (some b)) (.int .u64 (x : Int)) false).run Try.prog w = .ok (.bool ((aget x E).getD false)) w := by
  have := MapIs.look h (Go.Maps.int_keyed Try.underlying28) ekU_inj Try.underlying41 (Try.zeroValue4 w) false (x := x) (Go.Maps.keyOf_int_mk Try.underlying28 (wfU hx))
  refine this.trans ?_
  cases aget x E <;> rfl
theorem GMap.store_ (h : GMap w b E) (x : Nat) (v : Bool) (hx : x < 18446744073709551616) :
    ∃ w', (Instr.mapUpdate 41 (.map (some b)) (.int .u64 (x : Int)) (.bool v)).run Try.prog w = .ok () w' ∧ GMap w' b (aput x v E) ∧ w.grownBy w' (some b) ∧ w'.heap.size = w.heap.size :=
  MapIs.store (ev := evB) h (Go.Maps.int_keyed Try.underlying28) ekU_inj Try.underlying41 (x := x) (Go.Maps.keyOf_int_mk Try.underlying28 (wfU hx)) v
theorem SMap.look2_ (h : SMap w b S) (x : Nat) (hx : x < 18446744073709551616) {v : PkV} (hv : aget x S = some v) :
    (Instr.lookup 40 (.map (some b)) (.int .u64 (x : Int)) true).run Try.prog w = .ok (.tuple #[.agg v.cells.toArray, .bool true]) w := by
  have := MapIs.look h (Go.Maps.int_keyed Try.underlying28) ekU_inj Try.underlying40 (Try.zeroValue34 w) true (x := x) (Go.Maps.keyOf_int_mk Try.underlying28 (wfU hx))
  rw [hv] at this
  exact this
theorem SMap.look_ (h : SMap w b S) (x : Nat) (hx : x < 18446744073709551616) {v : PkV} (hv : aget x S = some v) :
    (Instr.lookup 40 (.map (some b)) (.int .u64 (x : Int)) false).run Try.prog w = .ok (.agg v.cells.toArray) w := by
  have := MapIs.look h (Go.Maps.int_keyed Try.underlying28) ekU_inj Try.underlying40 (Try.zeroValue34 w) false (x := x) (Go.Maps.keyOf_int_mk Try.underlying28 (wfU hx))
  rw [hv] at this
  exact this
theorem SMap.store_ (h : SMap w b S) (x : Nat) (v : PkV) (hx : x < 18446744073709551616) :
    ∃ w', (Instr.mapUpdate 40 (.map (some b)) (.int .u64 (x : Int)) (.agg v.cells.toArray)).run Try.prog w = .ok () w' ∧ SMap w' b (aput x v S) ∧ w.grownBy w' (some b) ∧ w'.heap.size = w.heap.size :=
  MapIs.store (ev := evP) h (Go.Maps.int_keyed Try.underlying28) ekU_inj Try.underlying40 (x := x) (Go.Maps.keyOf_int_mk Try.underlying28 (wfU hx)) v
theorem SMap.drop_ (h : SMap w b S) (x : Nat) (hx : x < 18446744073709551616) (ty : TypeId) :
    ∃ w', (Builtin.delete_ #[40, 28] ty #[.map (some b), .int .u64 (x : Int)]).run Try.prog w = .ok (.tuple #[]) w' ∧ SMap w' b (adel x S) ∧ w.grownBy w' (some b) ∧ w'.heap.size = w.heap.size :=
  MapIs.drop h (Go.Maps.int_keyed Try.underlying28) ekU_inj Try.underlying40 (x := x) (Go.Maps.keyOf_int_mk Try.underlying28 (wfU hx)) ty
end
/-- What NetArrives keeps in memory beside the net. -/
structure ArrIs (W : World) (base mb ms mg : Nat) (S : List (Nat × PkV)) (G : List (Nat × Bool)) : Prop where
  hs : SMap W ms S
  hg : GMap W mg G
  by_ : ∀ x ∈ S, BOwn W base x.2.a x.2.len x.2.cap x.2.pk.bytes
  ne1 : ms ≠ mg
  ne2 : ms ≠ mb
  ne3 : mg ≠ mb
  b1 : base ≤ ms
  b2 : base ≤ mg
theorem BOwn.notMap {W : World} {base n c b : Nat} {A : Option Addr} {l : List UInt8} (h : BOwn W base A n c l) {es : Array MapEntry} {ck : Nat} (hb : W.heap[b]? = some (.map es ck)) : (Value.slice A n c).ownBlock ≠ some b := fun e => by
  obtain ⟨cur, hc⟩ := h.isCells e
  rw [hb] at hc
  cases hc
section
variable {W W' : World} {base mb ms mg : Nat} {S : List (Nat × PkV)} {G : List (Nat × Bool)}
theorem ArrIs.keep (h : ArrIs W base mb ms mg S G) (hk : ∀ j, j < W.heap.size → W'.heap[j]? = W.heap[j]?) : ArrIs W' base mb ms mg S G :=
  ⟨h.hs.keep (hk _ h.hs.lt), h.hg.keep (hk _ h.hg.lt), fun x hx => (h.by_ x hx).keep fun j hj => hk j ((h.by_ x hx).base_le j hj).2, h.ne1, h.ne2, h.ne3, h.b1, h.b2⟩
theorem ArrIs.below (h : ArrIs W base mb ms mg S G) (hb : Below W.heap.size W W') : ArrIs W' base mb ms mg S G := h.keep fun j hj => hb.block j hj
theorem ArrIs.drew (h : ArrIs W base mb ms mg S G) : ArrIs W.drew base mb ms mg S G := h.keep fun _ _ => rfl
/-- A call of the net leaves it. -/
theorem ArrIs.net {g n c n' c' : Nat} {A A' : Option Addr} {vs : List PkV} {s : NS} (h : ArrIs W base mb ms mg S G) (hn : NetIs W base g mb A n c vs s) (hc : NetCh g mb A n c A' n' c' W W') : ArrIs W' base mb ms mg S G := by
  obtain ⟨es, ck, hm, _⟩ := h.hs.isMap
  obtain ⟨es2, ck2, hm2, _⟩ := h.hg.isMap
  have key : ∀ (b : Nat) (es : Array MapEntry) (ck : Nat), W.heap[b]? = some (.map es ck) → b ≠ mb → W'.heap[b]? = W.heap[b]? := fun b es ck hb hne => by
    refine hc.blk b (Array.getElem?_eq_some_iff.1 hb).1 (fun e => ?_) hne (fun e => ?_)
    · subst e; rw [hn.hg] at hb; cases hb
    · obtain ⟨cur, hcur⟩ := hn.hf.isCells e
      rw [hb] at hcur; cases hcur
  refine ⟨h.hs.keep (key ms es ck hm h.ne2), h.hg.keep (key mg es2 ck2 hm2 h.ne3), fun x hx => (h.by_ x hx).keep fun j hj => ?_, h.ne1, h.ne2, h.ne3, h.b1, h.b2⟩
  obtain ⟨q1, q2, q3⟩ := hn.bytes_ne (h.by_ x hx) hj
  exact hc.blk j ((h.by_ x hx).base_le j hj).2 q1 q2 q3
/-- The map of what is gone is written. -/
theorem ArrIs.gone (h : ArrIs W base mb ms mg S G) {G' : List (Nat × Bool)} (hg : GMap W' mg G') (hk : ∀ j, j < W.heap.size → j ≠ mg → W'.heap[j]? = W.heap[j]?) : ArrIs W' base mb ms mg S G' := by
  obtain ⟨es, ck, hm, _⟩ := h.hg.isMap
  exact ⟨h.hs.keep (hk _ h.hs.lt h.ne1), hg, fun x hx => (h.by_ x hx).keep fun j hj => hk j ((h.by_ x hx).base_le j hj).2 (fun e => (h.by_ x hx).notMap hm (e ▸ hj)), h.ne1, h.ne2, h.ne3, h.b1, h.b2⟩
/-- The map of what was sent is written. -/
theorem ArrIs.sent (h : ArrIs W base mb ms mg S G) {S' : List (Nat × PkV)} (hs : SMap W' ms S') (hS : ∀ x ∈ S', x ∈ S ∨ BOwn W base x.2.a x.2.len x.2.cap x.2.pk.bytes) (hk : ∀ j, j < W.heap.size → j ≠ ms → W'.heap[j]? = W.heap[j]?) : ArrIs W' base mb ms mg S' G := by
  obtain ⟨es, ck, hm, _⟩ := h.hs.isMap
  refine ⟨hs, h.hg.keep (hk _ h.hg.lt (Ne.symm h.ne1)), fun x hx => ?_, h.ne1, h.ne2, h.ne3, h.b1, h.b2⟩
  have hb : BOwn W base x.2.a x.2.len x.2.cap x.2.pk.bytes := (hS x hx).elim (h.by_ x) id
  exact hb.keep fun j hj => hk j (hb.base_le j hj).2 (fun e => hb.notMap hm (e ▸ hj))
end
end Go.Proofs.Ythajlhifgafpkaa
