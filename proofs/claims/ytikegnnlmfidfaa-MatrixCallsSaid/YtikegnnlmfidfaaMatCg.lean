/-
  Matrices: the reference's Apply.
-/
import Derived.Test.YtikegnnlmfidfaaMatCd
import Derived.Test.YtikegnnlmfidfaaMatCe
import Derived.Test.YtikegnnlmfidfaaMatCf
namespace Go.Proofs.Ytikegnnlmfidfaa
open Go.RowKit
theorem rapply_v (own : Int) (A : Option Addr) (n c B : Nat) (rs : List Rw) (kind : Int) (f : ByteArray) (d : Int) (w : World) (hr : RowsR w B A n rs) (hB : B ≤ w.heap.size) (hn : n ≤ 9223372036854775807) (hfs : f.size ≤ 9223372036854775807) :
    Calls Try.prog 26 #[.agg #[.int .i64 own, .slice A n c], .agg #[.int .i64 kind, .string f, .int .i64 d]] w fun e w' => ∃ A' n' c' rs', e = .returned (.tuple #[.agg #[.int .i64 (applyP (own, rs.map Rw.p) (kind, f, d)).1.1, .slice A' n' c'], .int .i64 ((applyP (own, rs.map Rw.p) (kind, f, d)).2 : Int)]) ∧ RowsR w' w'.heap.size A' n' rs' ∧ rs'.map Rw.p = (applyP (own, rs.map Rw.p) (kind, f, d)).1.2 ∧ n' ≤ 9 ∧ Below w.heap.size w w' := by
  by_cases h : kind < 1 ∨ 4 < kind
  · exact rapply0_v own A n c B rs kind f d w hr hB hn hfs h
  · rcases (show kind = 1 ∨ kind = 2 ∨ kind = 3 ∨ kind = 4 by omega) with rfl | rfl | rfl | rfl
    · exact rapply1_v own A n c B rs f d w hr hB hn hfs
    · exact rapply2_v own A n c B rs f d w hr hB hn hfs
    · exact rapply3_v own A n c B rs f d w hr hB hn hfs
    · exact rapply4_v own A n c B rs f d w hr hB hn hfs
end Go.Proofs.Ytikegnnlmfidfaa
