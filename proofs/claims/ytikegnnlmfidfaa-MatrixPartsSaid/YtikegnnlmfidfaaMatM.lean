/-
  Matrices, in plain Lean: devices, folders, checks, rows, sharing, changes.
-/
import Derived.Test.YtikegnnlmfidfaaKeys
namespace Go.Proofs.Ytikegnnlmfidfaa
/-- A folder's row: its name and with whom it is shared. -/
abbrev PRow := ByteArray × List Int
/-- A matrix: whose it is, and its rows. -/
abbrev PM := Int × List PRow
def dev (n : Int) : Bool := decide (1 ≤ n) && decide (n ≤ 16)
theorem dev_iff {n : Int} : dev n = true ↔ 1 ≤ n ∧ n ≤ 16 := by simp [dev]
def lowB (b : UInt8) : Prop := 97 ≤ b.toNat ∧ b.toNat ≤ 122
instance (b : UInt8) : Decidable (lowB b) := inferInstanceAs (Decidable (_ ∧ _))
/-- Whether a text may be a folder's name. -/
def folderP (s : ByteArray) : Bool := decide (1 ≤ s.size ∧ s.size ≤ 16 ∧ ∀ k (h : k < s.size), lowB (s[k]'h))
def withOk (own : Int) : Int → List Int → Bool
  | _, [] => true
  | n, d :: ds => dev d && !decide (d = own) && decide (n < d) && withOk own d ds
def rowsOk (own : Int) : ByteArray → List PRow → Bool
  | _, [] => true
  | last, r :: rs => folderP r.1 && klt last r.1 && withOk own 0 r.2 && rowsOk own r.1 rs
def emp : ByteArray := ⟨#[]⟩
/-- Why a matrix may not be. -/
def chkM (m : PM) : Nat := if 8 < m.2.length then 3 else if dev m.1 = false then 2 else if rowsOk m.1 emp m.2 then 0 else 2
def rowP (m : PM) (f : ByteArray) : Option PRow := if chkM m = 0 then m.2.find? (fun r => decide (r.1 = f)) else none
def hasP (m : PM) (f : ByteArray) : Bool := (rowP m f).isSome
def sharesP (m : PM) (f : ByteArray) (d : Int) : Bool := match rowP m f with
  | some r => decide (d ∈ r.2)
  | none => false
def withP (m : PM) (d : Int) : List ByteArray := if chkM m = 0 then (m.2.filter fun r => decide (d ∈ r.2)).map (·.1) else []
def bothP (a b : PM) (f : ByteArray) : Bool := !decide (a.1 = b.1) && (sharesP a f b.1 && sharesP b f a.1)
def sameM (a b : PM) : Bool := decide (chkM a = 0) && (decide (chkM b = 0) && (decide (a.1 = b.1) && decide (a.2 = b.2)))
/-- A row's place, and a device's. -/
def lbR (f : ByteArray) (rs : List PRow) : Nat := (rs.takeWhile fun r => klt r.1 f).length
def lbI (d : Int) (l : List Int) : Nat := (l.takeWhile fun x => decide (x < d)).length
abbrev PC := Int × ByteArray × Int
/-- The matrix behind a change, and why there is none. -/
def applyP (m : PM) (c : PC) : PM × Nat :=
  if chkM m ≠ 0 then ((0, []), chkM m)
  else if c.1 < 1 ∨ 4 < c.1 ∨ folderP c.2.1 = false ∨ ((c.1 = 3 ∨ c.1 = 4) ∧ (dev c.2.2 = false ∨ c.2.2 = m.1)) ∨ (¬ (c.1 = 3 ∨ c.1 = 4) ∧ c.2.2 ≠ 0) then ((0, []), 2)
  else match m.2.find? (fun r => decide (r.1 = c.2.1)) with
    | some r =>
      if c.1 = 1 then ((0, []), 7)
      else if c.1 = 2 then ((m.1, m.2.filter fun x => !decide (x.1 = c.2.1)), 0)
      else if c.1 = 3 then (if c.2.2 ∈ r.2 then ((0, []), 7) else ((m.1, m.2.map fun x => if x.1 = c.2.1 then (x.1, x.2.take (lbI c.2.2 x.2) ++ c.2.2 :: x.2.drop (lbI c.2.2 x.2)) else x), 0))
      else (if c.2.2 ∈ r.2 then ((m.1, m.2.map fun x => if x.1 = c.2.1 then (x.1, x.2.filter fun y => !decide (y = c.2.2)) else x), 0) else ((0, []), 6))
    | none => if c.1 = 1 then (if m.2.length = 8 then ((0, []), 3) else ((m.1, m.2.take (lbR c.2.1 m.2) ++ (c.2.1, []) :: m.2.drop (lbR c.2.1 m.2)), 0)) else ((0, []), 6)
end Go.Proofs.Ytikegnnlmfidfaa
