/-
  SHA-256, plain, in the words of a walk.
-/
import Derived.Laws.Entries
import Derived.Laws.BitsAllLaws
namespace Go.Proofs.YtjmdfipofgmakaaDoor
open Go
set_option linter.unusedVariables false
set_option linter.unusedSimpArgs false
def bx (a b : Int) : Int := bits .xor .u32 a b
def bn (a b : Int) : Int := bits .and .u32 a b
def bo (a b : Int) : Int := bits .or .u32 a b
def wr (a : Int) : Int := IntKind.u32.wrap a
def rr (x : Int) (n : Nat) : Int := bo (x / 2 ^ n) (wr (x * 2 ^ (32 - n)))

/-- a word of a block -/
def be4 (x0 x1 x2 x3 : UInt8) : Int := bo (bo (bo ((x0.toNat : Int) * 16777216) ((x1.toNat : Int) * 65536)) ((x2.toNat : Int) * 256)) (x3.toNat : Int)
def be32 (b : List UInt8) (i : Nat) : Int := be4 (b.getD (4 * i) 0) (b.getD (4 * i + 1) 0) (b.getD (4 * i + 2) 0) (b.getD (4 * i + 3) 0)
def nextW (w : List Int) (i : Nat) : Int :=
  wr (wr (wr (w.getD (i - 16) 0 + bx (bx (rr (w.getD (i - 15) 0) 7) (rr (w.getD (i - 15) 0) 18)) (w.getD (i - 15) 0 / 8)) + w.getD (i - 7) 0) + bx (bx (rr (w.getD (i - 2) 0) 17) (rr (w.getD (i - 2) 0) 19)) (w.getD (i - 2) 0 / 1024))
def sched (b : List UInt8) : Nat → List Int
  | 0 => []
  | i + 1 => sched b i ++ [if i < 16 then be32 b i else nextW (sched b i) i]
def kTab : List Int := [
  0x428a2f98, 0x71374491, 0xb5c0fbcf, 0xe9b5dba5, 0x3956c25b, 0x59f111f1, 0x923f82a4, 0xab1c5ed5,
  0xd807aa98, 0x12835b01, 0x243185be, 0x550c7dc3, 0x72be5d74, 0x80deb1fe, 0x9bdc06a7, 0xc19bf174,
  0xe49b69c1, 0xefbe4786, 0x0fc19dc6, 0x240ca1cc, 0x2de92c6f, 0x4a7484aa, 0x5cb0a9dc, 0x76f988da,
  0x983e5152, 0xa831c66d, 0xb00327c8, 0xbf597fc7, 0xc6e00bf3, 0xd5a79147, 0x06ca6351, 0x14292967,
  0x27b70a85, 0x2e1b2138, 0x4d2c6dfc, 0x53380d13, 0x650a7354, 0x766a0abb, 0x81c2c92e, 0x92722c85,
  0xa2bfe8a1, 0xa81a664b, 0xc24b8b70, 0xc76c51a3, 0xd192e819, 0xd6990624, 0xf40e3585, 0x106aa070,
  0x19a4c116, 0x1e376c08, 0x2748774c, 0x34b0bcb5, 0x391c0cb3, 0x4ed8aa4a, 0x5b9cca4f, 0x682e6ff3,
  0x748f82ee, 0x78a5636f, 0x84c87814, 0x8cc70208, 0x90befffa, 0xa4506ceb, 0xbef9a3f7, 0xc67178f2]
structure S8 where
  a : Int
  b : Int
  c : Int
  d : Int
  e : Int
  f : Int
  g : Int
  h : Int
def round8 (k w : Int) (s : S8) : S8 :=
  let t := wr (wr (wr (wr (s.h + bx (bx (rr s.e 6) (rr s.e 11)) (rr s.e 25)) + bx (bn s.e s.f) (bn (bx 4294967295 s.e) s.g)) + k) + w)
  let u := wr (bx (bx (rr s.a 2) (rr s.a 13)) (rr s.a 22) + bx (bx (bn s.a s.b) (bn s.a s.c)) (bn s.b s.c))
  ⟨wr (t + u), s.a, s.b, s.c, wr (s.d + t), s.e, s.f, s.g⟩
def rounds8 (w : List Int) (s : S8) : Nat → S8
  | 0 => s
  | i + 1 => round8 (kTab.getD i 0) (w.getD i 0) (rounds8 w s i)
def addB (s : S8) (b : List UInt8) : S8 :=
  let v := rounds8 (sched b 64) s 64
  ⟨wr (s.a + v.a), wr (s.b + v.b), wr (s.c + v.c), wr (s.d + v.d), wr (s.e + v.e), wr (s.f + v.f), wr (s.g + v.g), wr (s.h + v.h)⟩
def iv : S8 := ⟨0x6a09e667, 0xbb67ae85, 0x3c6ef372, 0xa54ff53a, 0x510e527f, 0x9b05688c, 0x1f83d9ab, 0x5be0cd19⟩
def by4 (x : Int) : List UInt8 := [UInt8.ofNat (x / 16777216 % 256).toNat, UInt8.ofNat (x / 65536 % 256).toNat, UInt8.ofNat (x / 256 % 256).toNat, UInt8.ofNat (x % 256).toNat]
def padTo (n : Nat) : Nat := (64 + 56 - (n + 1) % 64) % 64
def padded (s : List UInt8) : List UInt8 := s ++ 0x80 :: List.replicate (padTo s.length) 0 ++ by4 (s.length * 8 / 4294967296 : Nat) ++ by4 (s.length * 8 % 4294967296 : Nat)
def blocks (m : List UInt8) : Nat → S8
  | 0 => iv
  | n + 1 => addB (blocks m n) ((m.drop (64 * n)).take 64)
def S8.out (s : S8) : List UInt8 := by4 s.a ++ by4 s.b ++ by4 s.c ++ by4 s.d ++ by4 s.e ++ by4 s.f ++ by4 s.g ++ by4 s.h
def sha (s : List UInt8) : List UInt8 := (blocks (padded s) ((padded s).length / 64)).out
end Go.Proofs.YtjmdfipofgmakaaDoor
