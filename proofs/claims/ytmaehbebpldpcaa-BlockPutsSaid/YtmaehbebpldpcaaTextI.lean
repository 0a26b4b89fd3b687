/-
  A region that draws its order inside a round of 'range' over a function (the wide fence): walked along a tree of orders as a plain one (XTextT).
-/
import Derived.Test.YtmaehbebpldpcaaTextT
import Derived.OrdersIn
import Derived.RangeFuncCalls
namespace Go.Proofs.Ytmaehbebpldpcaa
open Go.RowKit
section
variable {P : Program} {n l : Nat} {Q : Exit → Act → World → Prop}
theorem rowsIn_wide {row : String} {args : Array Value} {w : World} {R : Value → World → Prop} (h : Rows P row args w R) : RowsIn (Fence.wide.inRound l) n P row args w R := by
  intro c cs _
  obtain ⟨v, w', r, s⟩ := h c cs
  rw [fenced_inRound]
  exact ⟨v, w', r, stepsIn_wide.2 s⟩
theorem uponIn_of_upon {o : Oper} {a : Act} {K : Act → World → Prop} : ∀ {r : Result Next}, o.upon P a K Q r → o.uponIn (Fence.wide.inRound l) n P a K Q r
  | .ok (.value v) w, h => h
  | .ok .skip w, h => h
  | .ok (.defer d) w, h => h
  | .ok (.enter f args) w, h => ⟨(fun e => by cases e), CallsIn.inRound l (callsIn_wide.2 h)⟩
  | .ok (.row row args) w, h => ⟨(fun e => by cases e), rowsIn_wide h⟩
  | .ok (.round _ _ _ _ _) w, h => False.elim h
  | .halt (.panic v) w, h => h
  | .halt (.exit _) _, h => False.elim h
  | .halt .blocked _, h => False.elim h
  | .halt .waiting _, h => False.elim h
  | .halt (.unsupported _) _, h => False.elim h
theorem wpOpIn_of_wpOp {ops : Array Oper} {i : Nat} {K : Act → World → Prop} {a : Act} {w : World} (hd : ∀ o, ops[i]? = some o → ∀ c, o.op ≠ .defer c) (hL : ¬ LetsOut Q) (h : wpOp P ops Q i K a w) : wpOpIn (Fence.wide.inRound l) n P ops Q i K a w := by
  unfold wpOp at h
  unfold wpOpIn
  cases ho : ops[i]? with
  | none => rw [ho] at h; exact h
  | some o =>
    rw [ho] at h
    simp only [] at h ⊢
    split
    · rename_i hw
      rw [if_pos hw] at h
      rcases h with h | h
      · refine ⟨fun _ _ => trivial, ?_⟩
        rw [Oper.semAt_eq _ _ _ (hd o ho)]
        exact uponIn_of_upon h
      · exact absurd h.2 hL
    · rename_i hw
      rw [if_neg hw] at h
      exact ⟨fun _ _ => trivial, h⟩
theorem wpAnyIn_of_wpAny {ops : Array Oper} {md : Region.Mode} (hd : ∀ o ∈ ops.toList, ∀ c, o.op ≠ .defer c) (hL : ¬ LetsOut Q) : ∀ (fuel : Nat) (listed : Array Bool) (a : Act) (w : World), wpAny P md ops Q fuel listed a w → wpAnyIn (Fence.wide.inRound l) n P md ops Q fuel listed a w
  | 0, _, _, _, h => h
  | fuel + 1, listed, a, w, h => ⟨h.1, fun i hi => by
      have h2 := wpOpIn_of_wpOp (l := l) (n := n) (fun o ho => hd o (by rw [← Array.getElem?_toList] at ho; exact List.mem_of_getElem? ho)) hL (h.2 i hi)
      refine wpOpIn_mono (fun a w => wpAnyIn_of_wpAny hd hL fuel _ a w) h2⟩
def noDefer (ol : List Oper) : Bool := ol.all fun o => match o.op with | .defer _ => false | _ => true
theorem noDefer_spec {ol : List Oper} (h : noDefer ol = true) : ∀ o ∈ ol.toArray.toList, ∀ c, o.op ≠ .defer c := by
  intro o ho c e
  have := List.all_eq_true.1 h o (by simpa using ho)
  rw [e] at this
  cases this
/-- The beginning. -/
theorem wpIn_region_tree {id : Nat} {ol : List Oper} {a : Act} {w : World} (t : SK) (S : World → Prop) (hm : P.follows .mixedOrders = true) (hl : t.len = ol.length) (hn : Region.noSelect ol.toArray = true)
    (hs : t.ok ol.toArray (Array.replicate ol.length false) = true) (hd : noDefer ol = true) (hL : ¬ LetsOut Q) (h : TR P ol.toArray Q S t a w.drew) : (Code.region id ol.toArray true).wpIn (Fence.wide.inRound l) n P Q a w := by
  refine wpIn_region_any hm (wpAnyIn_of_wpAny (noDefer_spec hd) hL _ _ _ _ (wpAny_of_held (S := S) _ _ _ _ ?_))
  have h2 := h (Array.replicate ol.length false) hn hs
  rw [hl] at h2
  exact h2
end
end Go.Proofs.Ytmaehbebpldpcaa
