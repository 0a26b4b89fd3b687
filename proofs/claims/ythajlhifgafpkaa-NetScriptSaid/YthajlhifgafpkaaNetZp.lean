/-
  Nets: the program's net and the reference's, side by side.
-/
import Derived.Test.YthajlhifgafpkaaNetZo
import Derived.Test.YthajlhifgafpkaaNetRk
namespace Go.Proofs.Ythajlhifgafpkaa
open Go.RowKit Go.Shelf
/-- The two nets' rows are apart. -/
def RowsApart (A : Option Addr) (n c : Nat) (A' : Option Addr) (n' c' : Nat) : Prop := ∀ j, (Value.slice A n c).ownBlock = some j → (Value.slice A' n' c').ownBlock ≠ some j
section
variable {W W' : World} {b1 b2 g mb n c g' nl cl n' c' n2 c2 nl2 cl2 : Nat} {A AL A' A2 AL2 : Option Addr} {vs : List PkV} {s s' : NS}
theorem NetIs.keep' (h : NetIs W b1 g mb A n c vs s) (hg : W'.heap[g]? = W.heap[g]?) (hm : W'.heap[mb]? = W.heap[mb]?) (ha : ∀ j, (Value.slice A n c).ownBlock = some j → W'.heap[j]? = W.heap[j]?) (hb : ∀ v ∈ vs, ∀ j, (Value.slice v.a v.len v.cap).ownBlock = some j → W'.heap[j]? = W.heap[j]?) : NetIs W' b1 g mb A n c vs s := by
  obtain ⟨l, h1, h2⟩ := h.hm
  exact ⟨hg.trans h.hg, ⟨l, h1.keep hm, h2⟩, h.hf.keep ha hb, h.hv, h.b1, h.b2⟩
/-- The reference's net stays, where the program's is called. -/
theorem RNy.other (h : RNy W b2 g' AL nl cl A' n' c' s') (hn : NetIs W b1 g mb A n c vs s) (hd : RowsApart A n c A' n' c') (hc : NetCh g mb A n c A2 n2 c2 W W') : RNy W' b2 g' AL nl cl A' n' c' s' := by
  obtain ⟨us, LL, h⟩ := h
  obtain ⟨es, ck, hmm⟩ := hn.isMap
  refine ⟨us, LL, h.keep' (hc.blk g' h.lt (fun e => ?_) (fun e => ?_) (fun e => ?_)) (fun j hj => hc.blk j (h.hl.lt j hj).2 (fun e => ?_) (fun e => ?_) (fun e => ?_)) (fun j hj => hc.blk j (h.hf.base_le j hj).2 (fun e => ?_) (fun e => ?_) (fun e => hd j e hj)) (fun v hv j hj => hc.blk j (h.hf.blt v hv j hj).2 (fun e => ?_) (fun e => ?_) (fun e => ?_))⟩
  · have := h.hg
    rw [e, hn.hg] at this
    simp at this
  · have := h.hg
    rw [e, hmm] at this
    simp at this
  · obtain ⟨cur, hcc⟩ := hn.hf.isCells e
    rw [h.hg] at hcc
    simp at hcc
  · obtain ⟨cur, hcc⟩ := own_cells' h.hl hj
    rw [e, hn.hg] at hcc
    simp at hcc
  · obtain ⟨cur, hcc⟩ := own_cells' h.hl hj
    rw [e, hmm] at hcc
    simp at hcc
  · obtain ⟨cur, hcc⟩ := own_cells' h.hl hj
    obtain ⟨cur2, hc2⟩ := hn.hf.isCells e
    rw [hcc] at hc2
    simp at hc2
  · obtain ⟨cur, hcc⟩ := h.hf.isCells hj
    rw [e, hn.hg] at hcc
    simp at hcc
  · obtain ⟨cur, hcc⟩ := h.hf.isCells hj
    rw [e, hmm] at hcc
    simp at hcc
  · obtain ⟨cur, hcc⟩ := (h.hf.bytes v hv).1.isCells hj
    rw [e, hn.hg] at hcc
    simp at hcc
  · obtain ⟨cur, hcc⟩ := (h.hf.bytes v hv).1.isCells hj
    rw [e, hmm] at hcc
    simp at hcc
  · obtain ⟨cur, hcc⟩ := (h.hf.bytes v hv).1.isCells hj
    obtain ⟨cur2, hc2⟩ := hn.hf.isCells e
    rw [hcc] at hc2
    simp at hc2
/-- The program's net stays, where the reference's is called. -/
theorem NetIs.other (hn : NetIs W b1 g mb A n c vs s) (h : RNy W b2 g' AL nl cl A' n' c' s') (hd : RowsApart A n c A' n' c') (hc : RCh g' AL nl cl A' n' c' AL2 nl2 cl2 A2 n2 c2 W W') : NetIs W' b1 g mb A n c vs s := by
  obtain ⟨us, LL, h⟩ := h
  obtain ⟨es, ck, hmm⟩ := hn.isMap
  refine hn.keep' (hc.blk g hn.lt (fun e => ?_) (fun e => ?_) (fun e => ?_)) (hc.blk mb hn.mlt (fun e => ?_) (fun e => ?_) (fun e => ?_)) (fun j hj => hc.blk j (hn.hf.base_le j hj).2 (fun e => ?_) (fun e => ?_) (fun e => hd j hj e)) (fun v hv j hj => hc.blk j (hn.hf.blt v hv j hj).2 (fun e => ?_) (fun e => ?_) (fun e => ?_))
  · have := h.hg
    rw [← e, hn.hg] at this
    simp at this
  · obtain ⟨cur, hcc⟩ := own_cells' h.hl e
    rw [hn.hg] at hcc
    simp at hcc
  · obtain ⟨cur, hcc⟩ := h.hf.isCells e
    rw [hn.hg] at hcc
    simp at hcc
  · have := h.hg
    rw [← e, hmm] at this
    simp at this
  · obtain ⟨cur, hcc⟩ := own_cells' h.hl e
    rw [hmm] at hcc
    simp at hcc
  · obtain ⟨cur, hcc⟩ := h.hf.isCells e
    rw [hmm] at hcc
    simp at hcc
  · obtain ⟨cur, hcc⟩ := hn.hf.isCells hj
    rw [e, h.hg] at hcc
    simp at hcc
  · obtain ⟨cur, hcc⟩ := hn.hf.isCells hj
    obtain ⟨cur2, hc2⟩ := own_cells' h.hl e
    rw [hcc] at hc2
    simp at hc2
  · obtain ⟨cur, hcc⟩ := (hn.hf.bytes v hv).1.isCells hj
    rw [e, h.hg] at hcc
    simp at hcc
  · obtain ⟨cur, hcc⟩ := (hn.hf.bytes v hv).1.isCells hj
    obtain ⟨cur2, hc2⟩ := own_cells' h.hl e
    rw [hcc] at hc2
    simp at hc2
  · obtain ⟨cur, hcc⟩ := (hn.hf.bytes v hv).1.isCells hj
    obtain ⟨cur2, hc2⟩ := h.hf.isCells e
    rw [hcc] at hc2
    simp at hc2
/-- Bytes of the call's own stay, where the reference's net is called. -/
theorem BOwn.other {b : Nat} {B : Option Addr} {k d : Nat} {l : List UInt8} (ho : BOwn W b B k d l) (h : RNy W b2 g' AL nl cl A' n' c' s') (hc : RCh g' AL nl cl A' n' c' AL2 nl2 cl2 A2 n2 c2 W W') : BOwn W' b B k d l := by
  obtain ⟨us, LL, h⟩ := h
  refine ho.keep fun j hj => hc.blk j (ho.base_le j hj).2 (fun e => ?_) (fun e => ?_) (fun e => ?_)
  · obtain ⟨cur, hcc⟩ := ho.isCells hj
    rw [e, h.hg] at hcc
    simp at hcc
  · obtain ⟨cur, hcc⟩ := ho.isCells hj
    obtain ⟨cur2, hc2⟩ := own_cells' h.hl e
    rw [hcc] at hc2
    simp at hc2
  · obtain ⟨cur, hcc⟩ := ho.isCells hj
    obtain ⟨cur2, hc2⟩ := h.hf.isCells e
    rw [hcc] at hc2
    simp at hc2
/-- A call's record stays, where the reference's net is called. -/
theorem RNy.act {j : Nat} {cs : Array Value} (h : RNy W b2 g' AL nl cl A' n' c' s') (hj : W.heap[j]? = some (.cells cs 43 (0, 0))) (hc : RCh g' AL nl cl A' n' c' AL2 nl2 cl2 A2 n2 c2 W W') : W'.heap[j]? = some (.cells cs 43 (0, 0)) := by
  obtain ⟨us, LL, h⟩ := h
  refine (hc.blk j (Array.getElem?_eq_some_iff.1 hj).1 (fun e => ?_) (fun e => ?_) (fun e => ?_)).trans hj
  · rw [e, h.hg] at hj
    simp at hj
  · obtain ⟨cur2, hc2⟩ := own_cells' h.hl e
    rw [hj] at hc2
    simp at hc2
  · obtain ⟨cur2, hc2⟩ := h.hf.isCells e
    rw [hj] at hc2
    simp at hc2
theorem RowsApart.net (hd : RowsApart A n c A' n' c') (h : RNy W b2 g' AL nl cl A' n' c' s') (hc : NetCh g mb A n c A2 n2 c2 W W') : RowsApart A2 n2 c2 A' n' c' := fun j hj e => by
  rcases hc.own j hj with h1 | h1
  · exact hd j h1 e
  · obtain ⟨us, LL, h⟩ := h
    have := (h.hf.base_le j e).2
    omega
theorem RowsApart.ref (hd : RowsApart A n c A' n' c') (hn : NetIs W b1 g mb A n c vs s) (hc : RCh g' AL nl cl A' n' c' AL2 nl2 cl2 A2 n2 c2 W W') : RowsApart A n c A2 n2 c2 := fun j hj e => by
  rcases hc.own j e with h1 | h1
  · exact hd j hj h1
  · have := (hn.hf.base_le j hj).2
    omega
end
end Go.Proofs.Ythajlhifgafpkaa
