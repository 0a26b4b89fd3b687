/-
  SHA-256 in plain numbers.
-/
import Derived.Test.YtmaehbebpldpcaaBase
namespace Go.Proofs.Ytmaehbebpldpcaa
def rotr (x n : Nat) : Nat := (x <<< (32 - n)) % 4294967296 ||| x >>> n
def rightL (x : Nat) (l : List Nat) : Nat := l.foldl (fun o n => o ^^^ rotr x n) 0
def be4 (b : List Nat) (t : Nat) : Nat := b.getD (4*t) 0 * 16777216 + b.getD (4*t+1) 0 * 65536 + b.getD (4*t+2) 0 * 256 + b.getD (4*t+3) 0
def wMix (x y z u : Nat) : Nat := ((((rightL x [17,19] ^^^ x >>> 10) + y) % 4294967296 + (rightL z [7,18] ^^^ z >>> 3)) % 4294967296 + u) % 4294967296
def wNext (b l : List Nat) : Nat :=
  if l.length < 16 then be4 b l.length else wMix (l.getD (l.length-2) 0) (l.getD (l.length-7) 0) (l.getD (l.length-15) 0) (l.getD (l.length-16) 0)
def wSched (b : List Nat) : Nat → List Nat
  | 0 => []
  | n+1 => wSched b n ++ [wNext b (wSched b n)]
def oneOf (e f g h k w : Nat) : Nat := ((((h + rightL e [6,11,25]) % 4294967296 + ((e &&& f) ^^^ ((4294967295 - e) &&& g))) % 4294967296 + k) % 4294967296 + w) % 4294967296
def twoOf (a b c : Nat) : Nat := (rightL a [2,13,22] + ((a &&& b) ^^^ (a &&& c) ^^^ (b &&& c))) % 4294967296
structure St where
  (a b c d e f g h : Nat)
  deriving DecidableEq
def St.rnd (s : St) (k w : Nat) : St :=
  ⟨(oneOf s.e s.f s.g s.h k w + twoOf s.a s.b s.c) % 4294967296, s.a, s.b, s.c, (s.d + oneOf s.e s.f s.g s.h k w) % 4294967296, s.e, s.f, s.g⟩
def rnds (ks ws : List Nat) (s : St) : Nat → St
  | 0 => s
  | n+1 => (rnds ks ws s n).rnd (ks.getD n 0) (ws.getD n 0)
def St.add (s t : St) : St := ⟨(s.a + t.a) % 4294967296, (s.b + t.b) % 4294967296, (s.c + t.c) % 4294967296, (s.d + t.d) % 4294967296, (s.e + t.e) % 4294967296, (s.f + t.f) % 4294967296, (s.g + t.g) % 4294967296, (s.h + t.h) % 4294967296⟩
def St.list (s : St) : List Nat := [s.a, s.b, s.c, s.d, s.e, s.f, s.g, s.h]
def blockP (ks : List Nat) (s : St) (b : List Nat) : St := s.add (rnds ks (wSched b 64) s 64)
/-- Halving. -/
def bis (f : Nat → Bool) : Nat → Nat → Nat → Nat
  | 0, lo, _ => lo
  | k+1, lo, hi => if f ((lo+hi)/2) then bis f k ((lo+hi)/2) hi else bis f k lo ((lo+hi)/2)
/-- The primes among the first k numbers from 2. -/
def prs : Nat → List Nat
  | 0 => []
  | k+1 => if (prs k).any (fun q => (k+2) % q == 0) then prs k else prs k ++ [k+2]
theorem prs_mono (k : Nat) : (prs k).length ≤ (prs (k+1)).length := by
  rw [prs]; split
  · exact Nat.le_refl _
  · simp
theorem prs_mono' {k j : Nat} (h : k ≤ j) : (prs k).length ≤ (prs j).length := by
  induction h with
  | refl => exact Nat.le_refl _
  | step _ ih => exact Nat.le_trans ih (prs_mono _)
theorem prs_bd : ∀ (k : Nat) (q : Nat), q ∈ prs k → 2 ≤ q ∧ q ≤ k + 1
  | 0, q, h => by simp [prs] at h
  | k+1, q, h => by
    rw [prs] at h
    split at h
    · have := prs_bd k q h; omega
    · rcases List.mem_append.1 h with h | h
      · have := prs_bd k q h; omega
      · simp at h; omega
theorem prs_hit {k : Nat} (h : (prs k).any (fun q => (k+2) % q == 0) = true) : prs (k+1) = prs k := by rw [prs, if_pos h]
theorem prs_new {k : Nat} (h : (prs k).any (fun q => (k+2) % q == 0) = false) : prs (k+1) = prs k ++ [k+2] := by rw [prs, if_neg (by rw [h]; decide)]
def sqOk (p x : Nat) : Bool := decide (x*x/18446744073709551616 < p) || (x*x/18446744073709551616 == p && x*x%18446744073709551616 == 0)
def cubeHi (x : Nat) : Nat := x*x/18446744073709551616*x + x*x%18446744073709551616*x/18446744073709551616
def cubeOk (p x : Nat) : Bool := decide (cubeHi x < p*4294967296) || (cubeHi x == p*4294967296 && x*x%18446744073709551616*x%18446744073709551616 == 0)
def K64 : List Nat := (prs 310).map fun p => bis (cubeOk p) 36 0 68719476736 % 4294967296
def H8 : List Nat := (prs 18).map fun p => bis (sqOk p) 36 0 68719476736 % 4294967296
def st8 : St := ⟨H8.getD 0 0, H8.getD 1 0, H8.getD 2 0, H8.getD 3 0, H8.getD 4 0, H8.getD 5 0, H8.getD 6 0, H8.getD 7 0⟩
def padL (n : Nat) : List Nat := 128 :: (List.replicate ((119 - n % 64) % 64) 0 ++ [n*8/72057594037927936%256, n*8/281474976710656%256, n*8/1099511627776%256, n*8/4294967296%256, n*8/16777216%256, n*8/65536%256, n*8/256%256, n*8%256])
def chunks : Nat → St → List Nat → St
  | 0, s, _ => s
  | n+1, s, b => chunks n (blockP K64 s (b.take 64)) (b.drop 64)
def be8 (x : Nat) : List Nat := [x/16777216%256, x/65536%256, x/256%256, x%256]
def shaS (b : List Nat) : St := chunks ((b ++ padL b.length).length / 64) st8 (b ++ padL b.length)
def sha (b : List Nat) : List Nat := (shaS b).list.flatMap be8
set_option maxRecDepth 100000
theorem len_p8 : (prs 18).length = 8 := by decide +kernel
theorem len_p8' : (prs 17).length = 7 := by decide +kernel
theorem len_p64 : (prs 310).length = 64 := by decide +kernel
theorem len_p64' : (prs 309).length = 63 := by decide +kernel
theorem len_H8 : H8.length = 8 := by decide +kernel
theorem len_K64 : K64.length = 64 := by decide +kernel
theorem H8_0 : H8.getD 0 0 = 0x6a09e667 := by decide +kernel
theorem K64_0 : K64.getD 0 0 = 0x428a2f98 := by decide +kernel
theorem K64_63 : K64.getD 63 0 = 0xc67178f2 := by decide +kernel
theorem sha_nil : shaS [] = ⟨0xe3b0c442, 0x98fc1c14, 0x9afbf4c8, 0x996fb924, 0x27ae41e4, 0x649b934c, 0xa495991b, 0x7852b855⟩ := by decide +kernel
theorem sha_abc : shaS [97, 98, 99] = ⟨0xba7816bf, 0x8f01cfea, 0x414140de, 0x5dae2223, 0xb00361a3, 0x96177a9c, 0xb410ff61, 0xf20015ad⟩ := by decide +kernel
end Go.Proofs.Ytmaehbebpldpcaa
