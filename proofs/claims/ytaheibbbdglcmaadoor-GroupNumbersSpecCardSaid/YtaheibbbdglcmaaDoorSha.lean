import Derived.Laws.BitsLemmas
/-! The hash in plain words: 32 bits are a bit vector, a byte a bit vector of 8. -/
namespace Sha
open Go
abbrev W := BitVec 32
abbrev B := BitVec 8
def rr (x : W) (n : Nat) : W := x >>> n ||| x <<< (32 - n)
def rot3 (x : W) (a b c : Nat) : W := rr x a ^^^ rr x b ^^^ rr x c
def s0 (x : W) : W := rr x 7 ^^^ rr x 18 ^^^ x >>> 3
def s1 (y : W) : W := rr y 17 ^^^ rr y 19 ^^^ y >>> 10
def wd (l : List B) : W := l.foldl (fun n c => n <<< 8 ||| c.setWidth 32) 0
structure St where
  a : W
  b : W
  c : W
  d : W
  e : W
  f : W
  g : W
  h : W
def St.list (s : St) : List W := [s.a, s.b, s.c, s.d, s.e, s.f, s.g, s.h]
/-- the words of a block: the first sixteen, then each out of those before it -/
def nextW (l : List W) (t : Nat) : W := l.getD (t - 16) 0 + s0 (l.getD (t - 15) 0) + l.getD (t - 7) 0 + s1 (l.getD (t - 2) 0)
def first16 (blk : List B) : Nat → List W
  | 0 => []
  | k + 1 => first16 blk k ++ [wd ((blk.drop (4 * k)).take 4)]
def sched (blk : List B) : Nat → List W
  | 0 => first16 blk 16
  | k + 1 => sched blk k ++ [nextW (sched blk k) (16 + k)]
def ch (e f g : W) : W := g ^^^ e &&& (f ^^^ g)
def maj (a b c : W) : W := a &&& b ||| c &&& (a ||| b)
def round (s : St) (k w : W) : St :=
  let p := s.h + rot3 s.e 6 11 25 + ch s.e s.f s.g + k + w
  let q := rot3 s.a 2 13 22 + maj s.a s.b s.c
  ⟨p + q, s.a, s.b, s.c, s.d + p, s.e, s.f, s.g⟩
def numbersL : List W := [
    0x428a2f98#32, 0x71374491#32, 0xb5c0fbcf#32, 0xe9b5dba5#32, 0x3956c25b#32, 0x59f111f1#32, 0x923f82a4#32, 0xab1c5ed5#32,
    0xd807aa98#32, 0x12835b01#32, 0x243185be#32, 0x550c7dc3#32, 0x72be5d74#32, 0x80deb1fe#32, 0x9bdc06a7#32, 0xc19bf174#32,
    0xe49b69c1#32, 0xefbe4786#32, 0x0fc19dc6#32, 0x240ca1cc#32, 0x2de92c6f#32, 0x4a7484aa#32, 0x5cb0a9dc#32, 0x76f988da#32,
    0x983e5152#32, 0xa831c66d#32, 0xb00327c8#32, 0xbf597fc7#32, 0xc6e00bf3#32, 0xd5a79147#32, 0x06ca6351#32, 0x14292967#32,
    0x27b70a85#32, 0x2e1b2138#32, 0x4d2c6dfc#32, 0x53380d13#32, 0x650a7354#32, 0x766a0abb#32, 0x81c2c92e#32, 0x92722c85#32,
    0xa2bfe8a1#32, 0xa81a664b#32, 0xc24b8b70#32, 0xc76c51a3#32, 0xd192e819#32, 0xd6990624#32, 0xf40e3585#32, 0x106aa070#32,
    0x19a4c116#32, 0x1e376c08#32, 0x2748774c#32, 0x34b0bcb5#32, 0x391c0cb3#32, 0x4ed8aa4a#32, 0x5b9cca4f#32, 0x682e6ff3#32,
    0x748f82ee#32, 0x78a5636f#32, 0x84c87814#32, 0x8cc70208#32, 0x90befffa#32, 0xa4506ceb#32, 0xbef9a3f7#32, 0xc67178f2#32]
def startS : St := ⟨0x6a09e667#32, 0xbb67ae85#32, 0x3c6ef372#32, 0xa54ff53a#32, 0x510e527f#32, 0x9b05688c#32, 0x1f83d9ab#32, 0x5be0cd19#32⟩
def rounds (s : St) (w : List W) : Nat → St
  | 0 => s
  | k + 1 => round (rounds s w k) (numbersL.getD k 0) (w.getD k 0)
def St.add (s t : St) : St := ⟨s.a + t.a, s.b + t.b, s.c + t.c, s.d + t.d, s.e + t.e, s.f + t.f, s.g + t.g, s.h + t.h⟩
def absorb (s : St) (blk : List B) : St := s.add (rounds s (sched blk 48) 64)
/-- the state behind the first k blocks of 64 bytes -/
def run (s : St) (l : List B) : Nat → St
  | 0 => s
  | k + 1 => absorb (run s l k) ((l.drop (64 * k)).take 64)
/-- a number in n bytes, the most significant one first -/
def be (n : Nat) (x : Nat) : List B := (List.range n).map fun i => BitVec.ofNat 8 (x / 2 ^ (8 * (n - 1 - i)))
def zeros (n : Nat) : Nat := (119 - n % 64) % 64
def padL (l : List B) : List B := l ++ 0x80#8 :: (List.replicate (zeros l.length) 0#8 ++ be 8 (8 * l.length % 2 ^ 64))
def out (s : St) : List B := s.list.flatMap fun x => be 4 x.toNat
def sum (l : List B) : List B := out (run startS (padL l) ((padL l).length / 64))
def tagged (tag l : List B) : List B := sum (sum tag ++ l)

/-! ### sizes -/
theorem be_length (n x : Nat) : (be n x).length = n := by simp [be]
theorem out_length (s : St) : (out s).length = 32 := by simp [out, St.list, be_length]
theorem sum_length (l : List B) : (sum l).length = 32 := out_length _
theorem tagged_length (t l : List B) : (tagged t l).length = 32 := sum_length _
theorem first16_length (blk : List B) (k : Nat) : (first16 blk k).length = k := by
  induction k with
  | zero => rfl
  | succ k ih => simp [first16, ih]
theorem sched_length (blk : List B) (k : Nat) : (sched blk k).length = 16 + k := by
  induction k with
  | zero => simp [sched, first16_length]
  | succ k ih => simp [sched, ih]; omega
theorem padL_length (l : List B) : (padL l).length = l.length + 9 + zeros l.length := by
  simp [padL, be_length]; omega
theorem padL_blocks (l : List B) : (padL l).length = 64 * ((padL l).length / 64) ∧ (padL l).length / 64 = l.length / 64 + (if l.length % 64 ≤ 55 then 1 else 2) := by
  rw [padL_length]; unfold zeros; split <;> omega

/-! ### the other way of typing the same -/
theorem ch_ref (e f g : W) : (e &&& f) ^^^ (~~~e &&& g) = ch e f g := by
  unfold ch
  ext i hi
  simp only [BitVec.getElem_xor, BitVec.getElem_and, BitVec.getElem_not]
  cases e[i] <;> cases f[i] <;> cases g[i] <;> rfl
theorem maj_ref (a b c : W) : (a &&& b) ^^^ (a &&& c) ^^^ (b &&& c) = maj a b c := by
  unfold maj
  ext i hi
  simp only [BitVec.getElem_xor, BitVec.getElem_and, BitVec.getElem_or]
  cases a[i] <;> cases b[i] <;> cases c[i] <;> rfl
theorem wd_four (a b c d : B) : wd [a, b, c, d] = a.setWidth 32 <<< 24 ||| b.setWidth 32 <<< 16 ||| c.setWidth 32 <<< 8 ||| d.setWidth 32 := by
  show (((0#32 <<< 8 ||| a.setWidth 32) <<< 8 ||| b.setWidth 32) <<< 8 ||| c.setWidth 32) <<< 8 ||| d.setWidth 32 = _
  simp only [BitVec.shiftLeft_or_distrib, ← BitVec.shiftLeft_add, BitVec.zero_shiftLeft, BitVec.zero_or]
end Sha
