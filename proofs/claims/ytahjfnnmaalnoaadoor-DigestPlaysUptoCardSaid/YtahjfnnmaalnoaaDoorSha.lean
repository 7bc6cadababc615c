/- The plain mathematics of the digest: blocks, words, rounds. No program in sight. -/
import Derived.Test.YtahjfnnmaalnoaaDoorWord
namespace Go.Proofs.YtahjfnnmaalnoaaDoor

def be32 (a b c d : UInt8) : UInt32 := shl (b2w a) 24 ||| shl (b2w b) 16 ||| shl (b2w c) 8 ||| b2w d
def sig0 (x : UInt32) : UInt32 := rotr x 7 ^^^ rotr x 18 ^^^ shr x 3
def sig1 (x : UInt32) : UInt32 := rotr x 17 ^^^ rotr x 19 ^^^ shr x 10
def Sig1 (e : UInt32) : UInt32 := rotr e 6 ^^^ rotr e 11 ^^^ rotr e 25
def Sig0 (a : UInt32) : UInt32 := rotr a 2 ^^^ rotr a 13 ^^^ rotr a 22
def chF (e f g : UInt32) : UInt32 := (e &&& f) ^^^ (~~~e &&& g)
def majF (a b c : UInt32) : UInt32 := (a &&& b) ^^^ (a &&& c) ^^^ (b &&& c)

/-- The i-th of the block's sixteen words. -/
def word16 (blk : List UInt8) (i : Nat) : UInt32 := be32 (blk.getD (4 * i) 0) (blk.getD (4 * i + 1) 0) (blk.getD (4 * i + 2) 0) (blk.getD (4 * i + 3) 0)
def nextW (ws : List UInt32) (i : Nat) : UInt32 := ws.getD (i - 16) 0 + sig0 (ws.getD (i - 15) 0) + ws.getD (i - 7) 0 + sig1 (ws.getD (i - 2) 0)
/-- The first n words of a block's row of 64. -/
def sched (blk : List UInt8) : Nat → List UInt32
  | 0 => []
  | n + 1 => sched blk n ++ [if n < 16 then word16 blk n else nextW (sched blk n) n]
theorem sched_length (blk : List UInt8) (n : Nat) : (sched blk n).length = n := by
  induction n with
  | zero => rfl
  | succ n ih => simp [sched, ih]
theorem sched_lo (blk : List UInt8) (n : Nat) (h : n < 16) : sched blk (n + 1) = sched blk n ++ [word16 blk n] := by simp [sched, h]
theorem sched_hi (blk : List UInt8) (n : Nat) (h : 16 ≤ n) : sched blk (n + 1) = sched blk n ++ [nextW (sched blk n) n] := by
  have : ¬ n < 16 := by omega
  simp [sched, this]

/-- The rounds' words. -/
def keysL : List UInt32 := [
  0x428a2f98, 0x71374491, 0xb5c0fbcf, 0xe9b5dba5, 0x3956c25b, 0x59f111f1, 0x923f82a4, 0xab1c5ed5,
  0xd807aa98, 0x12835b01, 0x243185be, 0x550c7dc3, 0x72be5d74, 0x80deb1fe, 0x9bdc06a7, 0xc19bf174,
  0xe49b69c1, 0xefbe4786, 0x0fc19dc6, 0x240ca1cc, 0x2de92c6f, 0x4a7484aa, 0x5cb0a9dc, 0x76f988da,
  0x983e5152, 0xa831c66d, 0xb00327c8, 0xbf597fc7, 0xc6e00bf3, 0xd5a79147, 0x06ca6351, 0x14292967,
  0x27b70a85, 0x2e1b2138, 0x4d2c6dfc, 0x53380d13, 0x650a7354, 0x766a0abb, 0x81c2c92e, 0x92722c85,
  0xa2bfe8a1, 0xa81a664b, 0xc24b8b70, 0xc76c51a3, 0xd192e819, 0xd6990624, 0xf40e3585, 0x106aa070,
  0x19a4c116, 0x1e376c08, 0x2748774c, 0x34b0bcb5, 0x391c0cb3, 0x4ed8aa4a, 0x5b9cca4f, 0x682e6ff3,
  0x748f82ee, 0x78a5636f, 0x84c87814, 0x8cc70208, 0x90befffa, 0xa4506ceb, 0xbef9a3f7, 0xc67178f2]

/-- What a digest grows in. -/
structure St where
  a : UInt32
  b : UInt32
  c : UInt32
  d : UInt32
  e : UInt32
  f : UInt32
  g : UInt32
  h : UInt32

def st0 : St := ⟨0x6a09e667, 0xbb67ae85, 0x3c6ef372, 0xa54ff53a, 0x510e527f, 0x9b05688c, 0x1f83d9ab, 0x5be0cd19⟩
def tOf (k w : UInt32) (s : St) : UInt32 := s.h + Sig1 s.e + chF s.e s.f s.g + k + w
def uOf (s : St) : UInt32 := Sig0 s.a + majF s.a s.b s.c
def rnd (k w : UInt32) (s : St) : St := ⟨tOf k w s + uOf s, s.a, s.b, s.c, s.d + tOf k w s, s.e, s.f, s.g⟩
def rnds (ws : List UInt32) (s : St) : Nat → St
  | 0 => s
  | n + 1 => rnd (keysL.getD n 0) (ws.getD n 0) (rnds ws s n)
def addS (v s : St) : St := ⟨v.a + s.a, v.b + s.b, v.c + s.c, v.d + s.d, v.e + s.e, v.f + s.f, v.g + s.g, v.h + s.h⟩
/-- The state behind one block more. -/
def mixS (s : St) (blk : List UInt8) : St := addS (rnds (sched blk 64) s 64) s

def St.list (s : St) : List UInt32 := [s.a, s.b, s.c, s.d, s.e, s.f, s.g, s.h]
def St.cells (s : St) : List Value := s.list.map W

end Go.Proofs.YtahjfnnmaalnoaaDoor
