/-
  Matrices: the examples' answers, in plain Lean.
-/
import Derived.Test.YtikegnnlmfidfaaMatU
namespace Go.Proofs.Ytikegnnlmfidfaa
def fF : ByteArray := ⟨#[102]⟩
def m1 : PM := (1, [(fF, [2])])
def m2 : PM := (2, [(fF, [1, 3])])
def m3 : PM := (3, [(fF, [2])])
def m3' : PM := (3, [(fF, [])])
def m4 : PM := (4, [(fF, [])])
set_option maxRecDepth 100000
theorem ex1 : madeP 1 [(1, fF, 0), (3, fF, 2)] = m1 := by decide +kernel
theorem ex2 : madeP 2 [(1, fF, 0), (3, fF, 1), (3, fF, 3)] = m2 := by decide +kernel
theorem ex3 : madeP 3 [(1, fF, 0), (3, fF, 2)] = m3 := by decide +kernel
theorem ex3' : madeP 3 [(1, fF, 0)] = m3' := by decide +kernel
theorem ex4 : madeP 4 [(1, fF, 0)] = m4 := by decide +kernel
theorem ex5 : (applyP m1 (3, fF, 2)).2 = 7 := by decide +kernel
theorem ex6 : (applyP m1 (4, fF, 3)).2 = 6 := by decide +kernel
theorem ex7 : sharesP m1 fF 2 = true := by decide +kernel
theorem ex8 : partsU [m1, m2, m3, m4] fF = [[1, 2, 3], [4]] := by decide +kernel
theorem ex9 : partsU [m1, m2, m3', m4] fF = [[1, 2], [3], [4]] := by decide +kernel
theorem ex10 : (applyP m1 (3, fF, 1)).2 = 2 := by decide +kernel
theorem ex11 : (applyP m1 (1, ⟨#[70]⟩, 0)).2 = 2 := by decide +kernel
theorem ex12 : bothP m1 m2 fF = true := by decide +kernel
theorem ex13 : bothP m2 m3' fF = false := by decide +kernel
theorem ex14 : withP m1 2 = [fF] := by decide +kernel
end Go.Proofs.Ytikegnnlmfidfaa
