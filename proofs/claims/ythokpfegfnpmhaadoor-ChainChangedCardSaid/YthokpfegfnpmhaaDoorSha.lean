/- SHA-256 over plain lists of bytes. -/
namespace Sha
set_option linter.unusedVariables false
set_option linter.unusedSimpArgs false
abbrev W := BitVec 32

def K : List W := [
  0x428a2f98#32, 0x71374491#32, 0xb5c0fbcf#32, 0xe9b5dba5#32, 0x3956c25b#32, 0x59f111f1#32, 0x923f82a4#32, 0xab1c5ed5#32,
  0xd807aa98#32, 0x12835b01#32, 0x243185be#32, 0x550c7dc3#32, 0x72be5d74#32, 0x80deb1fe#32, 0x9bdc06a7#32, 0xc19bf174#32,
  0xe49b69c1#32, 0xefbe4786#32, 0x0fc19dc6#32, 0x240ca1cc#32, 0x2de92c6f#32, 0x4a7484aa#32, 0x5cb0a9dc#32, 0x76f988da#32,
  0x983e5152#32, 0xa831c66d#32, 0xb00327c8#32, 0xbf597fc7#32, 0xc6e00bf3#32, 0xd5a79147#32, 0x06ca6351#32, 0x14292967#32,
  0x27b70a85#32, 0x2e1b2138#32, 0x4d2c6dfc#32, 0x53380d13#32, 0x650a7354#32, 0x766a0abb#32, 0x81c2c92e#32, 0x92722c85#32,
  0xa2bfe8a1#32, 0xa81a664b#32, 0xc24b8b70#32, 0xc76c51a3#32, 0xd192e819#32, 0xd6990624#32, 0xf40e3585#32, 0x106aa070#32,
  0x19a4c116#32, 0x1e376c08#32, 0x2748774c#32, 0x34b0bcb5#32, 0x391c0cb3#32, 0x4ed8aa4a#32, 0x5b9cca4f#32, 0x682e6ff3#32,
  0x748f82ee#32, 0x78a5636f#32, 0x84c87814#32, 0x8cc70208#32, 0x90befffa#32, 0xa4506ceb#32, 0xbef9a3f7#32, 0xc67178f2#32]
def H0 : List W := [0x6a09e667#32, 0xbb67ae85#32, 0x3c6ef372#32, 0xa54ff53a#32, 0x510e527f#32, 0x9b05688c#32, 0x1f83d9ab#32, 0x5be0cd19#32]

def ror (x : W) (n : Nat) : W := (x >>> n) ||| (x <<< (32 - n))
def s0 (x : W) : W := ror x 7 ^^^ ror x 18 ^^^ (x >>> 3)
def s1 (x : W) : W := ror x 17 ^^^ ror x 19 ^^^ (x >>> 10)
def S0 (x : W) : W := ror x 2 ^^^ ror x 13 ^^^ ror x 22
def S1 (x : W) : W := ror x 6 ^^^ ror x 11 ^^^ ror x 25
def ch (e f g : W) : W := (e &&& f) ^^^ (~~~e &&& g)
def maj (a b c : W) : W := (a &&& b) ^^^ (a &&& c) ^^^ (b &&& c)

/-- the number that four bytes are -/
def word (b : List UInt8) : W := BitVec.ofNat 32 (b.foldl (fun n c => n * 256 + c.toNat) 0)

/-- the words of a block, up to so many -/
def sched (ws : List W) : Nat → List W
  | 0 => ws
  | n + 1 => let l := sched ws n; let t := l.length; l ++ [l.getD (t - 16) 0 + s0 (l.getD (t - 15) 0) + l.getD (t - 7) 0 + s1 (l.getD (t - 2) 0)]

structure St where
  a : W
  b : W
  c : W
  d : W
  e : W
  f : W
  g : W
  h : W

def rnd (s : St) (k w : W) : St :=
  let p := s.h + S1 s.e + ch s.e s.f s.g + k + w
  let q := S0 s.a + maj s.a s.b s.c
  ⟨p + q, s.a, s.b, s.c, s.d + p, s.e, s.f, s.g⟩

def rnds (ws : List W) (s : St) : Nat → St
  | 0 => s
  | n + 1 => rnd (rnds ws s n) (K.getD n 0) (ws.getD n 0)

def words (b : List UInt8) : List W := (List.range 16).map fun t => word ((b.drop (4 * t)).take 4)
def add (s t : St) : St := ⟨s.a + t.a, s.b + t.b, s.c + t.c, s.d + t.d, s.e + t.e, s.f + t.f, s.g + t.g, s.h + t.h⟩
def comp (s : St) (b : List UInt8) : St := add s (rnds (sched (words b) 48) s 64)
def init : St := ⟨0x6a09e667#32, 0xbb67ae85#32, 0x3c6ef372#32, 0xa54ff53a#32, 0x510e527f#32, 0x9b05688c#32, 0x1f83d9ab#32, 0x5be0cd19#32⟩

/-- n blocks, one after the other -/
def blocks (s : St) (b : List UInt8) : Nat → St
  | 0 => s
  | n + 1 => comp (blocks s b n) ((b.drop (64 * n)).take 64)

def be8 (n : Nat) : List UInt8 := (List.range 8).map fun i => UInt8.ofNat (n / 256 ^ (7 - i))
def be4 (x : W) : List UInt8 := [UInt8.ofNat (x.toNat / 256 ^ 3), UInt8.ofNat (x.toNat / 256 ^ 2), UInt8.ofNat (x.toNat / 256 ^ 1), UInt8.ofNat (x.toNat / 256 ^ 0)]
def pad (b : List UInt8) : List UInt8 := b ++ 0x80 :: (List.replicate ((119 - b.length % 64) % 64) 0 ++ be8 (8 * b.length))
def out (s : St) : List UInt8 := be4 s.a ++ be4 s.b ++ be4 s.c ++ be4 s.d ++ be4 s.e ++ be4 s.f ++ be4 s.g ++ be4 s.h
def sha (b : List UInt8) : List UInt8 := out (blocks init (pad b) ((pad b).length / 64))

theorem t0 : (sha []).take 4 = [0xe3, 0xb0, 0xc4, 0x42] := by decide +kernel
end Sha
