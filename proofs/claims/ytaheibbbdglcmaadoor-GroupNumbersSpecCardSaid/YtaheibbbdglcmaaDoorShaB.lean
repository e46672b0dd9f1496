import Derived.Test.YtaheibbbdglcmaaDoorSha
import Derived.Laws.Bits64
import Derived.Laws.Bits64b
/-! The machine's words on 32 bits, said of bit vectors. -/
namespace Sha
open Go
/-- a word as a number -/
def un (x : W) : Int := (x.toNat : Int)
def u (x : W) : Value := .int .u32 (un x)
/-- a byte as a number -/
def bn (c : B) : Int := (c.toNat : Int)
theorem un_bd (x : W) : 0 ≤ un x ∧ un x < 4294967296 := by unfold un; have := x.isLt; omega
theorem bn_bd (c : B) : 0 ≤ bn c ∧ bn c < 256 := by unfold bn; have := c.isLt; omega
theorem ofInt_nat (x : W) : BitVec.ofInt IntKind.u32.bits (x.toNat : Int) = x := by
  show BitVec.ofInt 32 (x.toNat : Int) = x
  rw [BitVec.ofInt_natCast]; exact BitVec.ofNat_toNat .. |>.trans (by simp)
theorem wrap_nat (x : W) : IntKind.u32.wrap (x.toNat : Int) = x.toNat := by
  rw [IntKind.wrap_u32]; have := x.isLt; omega
theorem xor_u (x y : W) : bits .xor .u32 (x.toNat : Int) (y.toNat : Int) = ((x ^^^ y).toNat : Int) := by
  show IntKind.u32.wrap ((BitVec.ofInt IntKind.u32.bits (x.toNat : Int) ^^^ BitVec.ofInt IntKind.u32.bits (y.toNat : Int)).toNat : Int) = _
  rw [ofInt_nat, ofInt_nat]; exact wrap_nat _
theorem and_u (x y : W) : bits .and .u32 (x.toNat : Int) (y.toNat : Int) = ((x &&& y).toNat : Int) := by
  show IntKind.u32.wrap ((BitVec.ofInt IntKind.u32.bits (x.toNat : Int) &&& BitVec.ofInt IntKind.u32.bits (y.toNat : Int)).toNat : Int) = _
  rw [ofInt_nat, ofInt_nat]; exact wrap_nat _
theorem or_u (x y : W) : bits .or .u32 (x.toNat : Int) (y.toNat : Int) = ((x ||| y).toNat : Int) := by
  show IntKind.u32.wrap ((BitVec.ofInt IntKind.u32.bits (x.toNat : Int) ||| BitVec.ofInt IntKind.u32.bits (y.toNat : Int)).toNat : Int) = _
  rw [ofInt_nat, ofInt_nat]; exact wrap_nat _
theorem add_u (x y : W) : IntKind.u32.wrap ((x.toNat : Int) + y.toNat) = ((x + y).toNat : Int) := by
  rw [IntKind.wrap_u32, BitVec.toNat_add]; omega
theorem not_u (x : W) : bits .xor .u32 4294967295 (x.toNat : Int) = ((~~~x).toNat : Int) := by
  have h := xor_u (4294967295#32) x
  rw [show ((4294967295#32).toNat : Int) = 4294967295 from rfl] at h
  rw [h]
  congr 2
theorem shl_u (x : W) (n : Nat) : IntKind.u32.wrap ((x.toNat : Int) * 2 ^ n) = ((x <<< n).toNat : Int) := by
  rw [IntKind.wrap_u32, BitVec.toNat_shiftLeft, Nat.shiftLeft_eq, Int.natCast_emod, Int.natCast_mul, Int.natCast_pow]
  rfl
theorem shr_u (x : W) (n : Nat) : (x.toNat : Int) / 2 ^ n = ((x >>> n).toNat : Int) := by
  rw [BitVec.toNat_ushiftRight, Nat.shiftRight_eq_div_pow, Int.natCast_ediv, Int.natCast_pow]
  rfl
theorem rr_u (x : W) (n : Nat) : bits .or .u32 (IntKind.u32.wrap ((x.toNat : Int) * 2 ^ (32 - n))) ((x.toNat : Int) / 2 ^ n) = ((rr x n).toNat : Int) := by
  rw [shl_u, shr_u, or_u]
  unfold rr
  rw [BitVec.or_comm]
theorem byte_u (c : B) : ((c.setWidth 32 : W).toNat : Int) = (c.toNat : Int) := by
  rw [BitVec.toNat_setWidth]; have := c.isLt; omega
/-! ### said of the numbers -/
theorem xor_n (x y : W) : bits .xor .u32 (un x) (un y) = un (x ^^^ y) := xor_u x y
theorem and_n (x y : W) : bits .and .u32 (un x) (un y) = un (x &&& y) := and_u x y
theorem or_n (x y : W) : bits .or .u32 (un x) (un y) = un (x ||| y) := or_u x y
theorem add_n (x y : W) : (un x + un y) % 4294967296 = un (x + y) := by rw [← IntKind.wrap_u32]; exact add_u x y
theorem addw_n (x y : W) : IntKind.u32.wrap (un x + un y) = un (x + y) := add_u x y
theorem not_n (x : W) : bits .xor .u32 4294967295 (un x) = un (~~~x) := not_u x
theorem shr_n (x : W) (n : Nat) : un x / (2 : Int) ^ n = un (x >>> n) := shr_u x n
theorem shl_n (x : W) (n : Nat) : un x * (2 : Int) ^ n % 4294967296 = un (x <<< n) := by rw [← IntKind.wrap_u32]; exact shl_u x n
theorem rr_n (x : W) (n : Nat) : bits .or .u32 (IntKind.u32.wrap (un x * (2 : Int) ^ (32 - n))) (un x / (2 : Int) ^ n) = un (rr x n) := rr_u x n
theorem byte_n (c : B) : un (c.setWidth 32) = bn c := byte_u c
end Sha
