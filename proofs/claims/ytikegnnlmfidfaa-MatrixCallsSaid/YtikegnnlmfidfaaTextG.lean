/-
  As XTextF: more may be known from an operation on.
-/
import Derived.Test.YtikegnnlmfidfaaTextF
namespace Go.Proofs.Ytikegnnlmfidfaa
section
variable {P : Program} {ops : Array Oper} {Q : Exit → Act → World → Prop} {F F' G : World → Prop} {e : Nat}
theorem wpAnyE_mono (hF : ∀ W, F' W → F W) : ∀ (fuel : Nat) (listed : Array Bool) (a : Act) (w : World), wpAnyE P ops Q F' G e fuel listed a w → wpAnyE P ops Q F G e fuel listed a w
  | 0, _, _, _, h => h
  | fuel + 1, _, _, _, h => ⟨h.1, fun i hi => wpOp_mono (fun a' w' h' => ⟨⟨hF _ h'.1.1, h'.1.2⟩, wpAnyE_mono hF fuel _ a' w' h'.2⟩) (h.2 i hi)⟩
theorem TF.now {l : List (Nat × Nat × Oper)} {a : Act} {w : World} (F' : World → Prop) (hF : ∀ W, F' W → F W) (h : TF P ops Q F' G e l a w) : TF P ops Q F G e l a w :=
  fun listed hn hs hi => wpAnyE_mono hF _ _ _ _ (h listed hn hs hi)
end
end Go.Proofs.Ytikegnnlmfidfaa
