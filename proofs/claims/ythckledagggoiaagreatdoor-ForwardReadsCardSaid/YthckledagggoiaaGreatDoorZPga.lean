import Derived.Laws.BitsLemmas
import Derived.Laws.Bits64
import Derived.Laws.Bits64b
import Derived.Below
import Derived.WalkSmall
import Derived.RangeFuncBox
import Derived.Test.YthckledagggoiaaGreatDoorChecked
import Derived.WalkKit
import Derived.Lib.Hide
import Derived.Deep.LoopGhost
import Derived.Outline
import Derived.IntWalk
import Derived.StillTail
import Derived.StillTailTactics
import Derived.Deep.QuietTactic
import Derived.BigQuiet
import Derived.Laws.CopyRow
import Derived.Laws.CopyOwn
import Derived.Deep.DeepCutAuto
import Derived.Deep.Cut
/-! The hash in plain words: 32 bits are a bit vector, a byte a bit vector of 8. -/
namespace Sha
open Go
abbrev W := BitVec 32
abbrev B := BitVec 8
def rr (x : W) (n : Nat) : W := x >>> n ||| x <<< (32 - n)
def rot3 (x : W) (a b c : Nat) : W := rr x a ^^^ rr x b ^^^ rr x c
def s0 (x : W) : W := rr x 7 ^^^ rr x 18 ^^^ x >>> 3
def s1 (y : W) : W := rr y 17 ^^^ rr y 19 ^^^ y >>> 10
def wd (l : List B) : W := l.foldl (fun n c => n <<< 8 ||| c.setWidth 32) 0
structure St where
  a : W
  b : W
  c : W
  d : W
  e : W
  f : W
  g : W
  h : W
def St.list (s : St) : List W := [s.a, s.b, s.c, s.d, s.e, s.f, s.g, s.h]
/-- the words of a block: the first sixteen, then each out of those before it -/
def nextW (l : List W) (t : Nat) : W := l.getD (t - 16) 0 + s0 (l.getD (t - 15) 0) + l.getD (t - 7) 0 + s1 (l.getD (t - 2) 0)
def first16 (blk : List B) : Nat → List W
  | 0 => []
  | k + 1 => first16 blk k ++ [wd ((blk.drop (4 * k)).take 4)]
def sched (blk : List B) : Nat → List W
  | 0 => first16 blk 16
  | k + 1 => sched blk k ++ [nextW (sched blk k) (16 + k)]
def ch (e f g : W) : W := g ^^^ e &&& (f ^^^ g)
def maj (a b c : W) : W := a &&& b ||| c &&& (a ||| b)
def round (s : St) (k w : W) : St :=
  let p := s.h + rot3 s.e 6 11 25 + ch s.e s.f s.g + k + w
  let q := rot3 s.a 2 13 22 + maj s.a s.b s.c
  ⟨p + q, s.a, s.b, s.c, s.d + p, s.e, s.f, s.g⟩
def numbersL : List W := [
    0x428a2f98#32, 0x71374491#32, 0xb5c0fbcf#32, 0xe9b5dba5#32, 0x3956c25b#32, 0x59f111f1#32, 0x923f82a4#32, 0xab1c5ed5#32,
    0xd807aa98#32, 0x12835b01#32, 0x243185be#32, 0x550c7dc3#32, 0x72be5d74#32, 0x80deb1fe#32, 0x9bdc06a7#32, 0xc19bf174#32,
    0xe49b69c1#32, 0xefbe4786#32, 0x0fc19dc6#32, 0x240ca1cc#32, 0x2de92c6f#32, 0x4a7484aa#32, 0x5cb0a9dc#32, 0x76f988da#32,
    0x983e5152#32, 0xa831c66d#32, 0xb00327c8#32, 0xbf597fc7#32, 0xc6e00bf3#32, 0xd5a79147#32, 0x06ca6351#32, 0x14292967#32,
    0x27b70a85#32, 0x2e1b2138#32, 0x4d2c6dfc#32, 0x53380d13#32, 0x650a7354#32, 0x766a0abb#32, 0x81c2c92e#32, 0x92722c85#32,
    0xa2bfe8a1#32, 0xa81a664b#32, 0xc24b8b70#32, 0xc76c51a3#32, 0xd192e819#32, 0xd6990624#32, 0xf40e3585#32, 0x106aa070#32,
    0x19a4c116#32, 0x1e376c08#32, 0x2748774c#32, 0x34b0bcb5#32, 0x391c0cb3#32, 0x4ed8aa4a#32, 0x5b9cca4f#32, 0x682e6ff3#32,
    0x748f82ee#32, 0x78a5636f#32, 0x84c87814#32, 0x8cc70208#32, 0x90befffa#32, 0xa4506ceb#32, 0xbef9a3f7#32, 0xc67178f2#32]
def startS : St := ⟨0x6a09e667#32, 0xbb67ae85#32, 0x3c6ef372#32, 0xa54ff53a#32, 0x510e527f#32, 0x9b05688c#32, 0x1f83d9ab#32, 0x5be0cd19#32⟩
def rounds (s : St) (w : List W) : Nat → St
  | 0 => s
  | k + 1 => round (rounds s w k) (numbersL.getD k 0) (w.getD k 0)
def St.add (s t : St) : St := ⟨s.a + t.a, s.b + t.b, s.c + t.c, s.d + t.d, s.e + t.e, s.f + t.f, s.g + t.g, s.h + t.h⟩
def absorb (s : St) (blk : List B) : St := s.add (rounds s (sched blk 48) 64)
/-- the state behind the first k blocks of 64 bytes -/
def run (s : St) (l : List B) : Nat → St
  | 0 => s
  | k + 1 => absorb (run s l k) ((l.drop (64 * k)).take 64)
/-- a number in n bytes, the most significant one first -/
def be (n : Nat) (x : Nat) : List B := (List.range n).map fun i => BitVec.ofNat 8 (x / 2 ^ (8 * (n - 1 - i)))
def zeros (n : Nat) : Nat := (119 - n % 64) % 64
def padL (l : List B) : List B := l ++ 0x80#8 :: (List.replicate (zeros l.length) 0#8 ++ be 8 (8 * l.length % 2 ^ 64))
def out (s : St) : List B := s.list.flatMap fun x => be 4 x.toNat
def sum (l : List B) : List B := out (run startS (padL l) ((padL l).length / 64))
def tagged (tag l : List B) : List B := sum (sum tag ++ l)

/-! ### sizes -/
theorem be_length (n x : Nat) : (be n x).length = n := by simp [be]
theorem out_length (s : St) : (out s).length = 32 := by simp [out, St.list, be_length]
theorem sum_length (l : List B) : (sum l).length = 32 := out_length _
theorem tagged_length (t l : List B) : (tagged t l).length = 32 := sum_length _
theorem first16_length (blk : List B) (k : Nat) : (first16 blk k).length = k := by
  induction k with
  | zero => rfl
  | succ k ih => simp [first16, ih]
theorem sched_length (blk : List B) (k : Nat) : (sched blk k).length = 16 + k := by
  induction k with
  | zero => simp [sched, first16_length]
  | succ k ih => simp [sched, ih]; omega
theorem padL_length (l : List B) : (padL l).length = l.length + 9 + zeros l.length := by
  simp [padL, be_length]; omega
theorem padL_blocks (l : List B) : (padL l).length = 64 * ((padL l).length / 64) ∧ (padL l).length / 64 = l.length / 64 + (if l.length % 64 ≤ 55 then 1 else 2) := by
  rw [padL_length]; unfold zeros; split <;> omega

/-! ### the other way of typing the same -/
end Sha

/-! The machine's words on 32 bits, said of bit vectors. -/
namespace Sha
open Go
/-- a word as a number -/
def un (x : W) : Int := (x.toNat : Int)
def u (x : W) : Value := .int .u32 (un x)
/-- a byte as a number -/
def bn (c : B) : Int := (c.toNat : Int)
theorem un_bd (x : W) : 0 ≤ un x ∧ un x < 4294967296 := by unfold un; have := x.isLt; omega
theorem bn_bd (c : B) : 0 ≤ bn c ∧ bn c < 256 := by unfold bn; have := c.isLt; omega
theorem ofInt_nat (x : W) : BitVec.ofInt IntKind.u32.bits (x.toNat : Int) = x := by
  show BitVec.ofInt 32 (x.toNat : Int) = x
  rw [BitVec.ofInt_natCast]; exact BitVec.ofNat_toNat .. |>.trans (by simp)
theorem wrap_nat (x : W) : IntKind.u32.wrap (x.toNat : Int) = x.toNat := by
  rw [IntKind.wrap_u32]; have := x.isLt; omega
theorem xor_u (x y : W) : bits .xor .u32 (x.toNat : Int) (y.toNat : Int) = ((x ^^^ y).toNat : Int) := by
  show IntKind.u32.wrap ((BitVec.ofInt IntKind.u32.bits (x.toNat : Int) ^^^ BitVec.ofInt IntKind.u32.bits (y.toNat : Int)).toNat : Int) = _
  rw [ofInt_nat, ofInt_nat]; exact wrap_nat _
theorem and_u (x y : W) : bits .and .u32 (x.toNat : Int) (y.toNat : Int) = ((x &&& y).toNat : Int) := by
  show IntKind.u32.wrap ((BitVec.ofInt IntKind.u32.bits (x.toNat : Int) &&& BitVec.ofInt IntKind.u32.bits (y.toNat : Int)).toNat : Int) = _
  rw [ofInt_nat, ofInt_nat]; exact wrap_nat _
theorem or_u (x y : W) : bits .or .u32 (x.toNat : Int) (y.toNat : Int) = ((x ||| y).toNat : Int) := by
  show IntKind.u32.wrap ((BitVec.ofInt IntKind.u32.bits (x.toNat : Int) ||| BitVec.ofInt IntKind.u32.bits (y.toNat : Int)).toNat : Int) = _
  rw [ofInt_nat, ofInt_nat]; exact wrap_nat _
theorem add_u (x y : W) : IntKind.u32.wrap ((x.toNat : Int) + y.toNat) = ((x + y).toNat : Int) := by
  rw [IntKind.wrap_u32, BitVec.toNat_add]; omega
theorem shl_u (x : W) (n : Nat) : IntKind.u32.wrap ((x.toNat : Int) * 2 ^ n) = ((x <<< n).toNat : Int) := by
  rw [IntKind.wrap_u32, BitVec.toNat_shiftLeft, Nat.shiftLeft_eq, Int.natCast_emod, Int.natCast_mul, Int.natCast_pow]
  rfl
theorem shr_u (x : W) (n : Nat) : (x.toNat : Int) / 2 ^ n = ((x >>> n).toNat : Int) := by
  rw [BitVec.toNat_ushiftRight, Nat.shiftRight_eq_div_pow, Int.natCast_ediv, Int.natCast_pow]
  rfl
theorem rr_u (x : W) (n : Nat) : bits .or .u32 (IntKind.u32.wrap ((x.toNat : Int) * 2 ^ (32 - n))) ((x.toNat : Int) / 2 ^ n) = ((rr x n).toNat : Int) := by
  rw [shl_u, shr_u, or_u]
  unfold rr
  rw [BitVec.or_comm]
theorem byte_u (c : B) : ((c.setWidth 32 : W).toNat : Int) = (c.toNat : Int) := by
  rw [BitVec.toNat_setWidth]; have := c.isLt; omega
/-! ### said of the numbers -/
theorem xor_n (x y : W) : bits .xor .u32 (un x) (un y) = un (x ^^^ y) := xor_u x y
theorem and_n (x y : W) : bits .and .u32 (un x) (un y) = un (x &&& y) := and_u x y
theorem or_n (x y : W) : bits .or .u32 (un x) (un y) = un (x ||| y) := or_u x y
theorem add_n (x y : W) : (un x + un y) % 4294967296 = un (x + y) := by rw [← IntKind.wrap_u32]; exact add_u x y
theorem shr_n (x : W) (n : Nat) : un x / (2 : Int) ^ n = un (x >>> n) := shr_u x n
theorem shl_n (x : W) (n : Nat) : un x * (2 : Int) ^ n % 4294967296 = un (x <<< n) := by rw [← IntKind.wrap_u32]; exact shl_u x n
theorem rr_n (x : W) (n : Nat) : bits .or .u32 (IntKind.u32.wrap (un x * (2 : Int) ^ (32 - n))) (un x / (2 : Int) ^ n) = un (rr x n) := rr_u x n
theorem byte_n (c : B) : un (c.setWidth 32) = bn c := byte_u c
end Sha

/-! Slices that read as lists; blocks that are known whole. -/
namespace Fk
open Go Go.RowKit

section
variable {α : Type} [Inhabited α] {m : Nat} {enc : α → List Value}
/-- the cells from offset off of block b on are the elements of l, m cells each -/
def CellsG (m : Nat) (enc : α → List Value) (w : World) (b off : Nat) (l : List α) : Prop :=
  ∀ i, i < l.length → ∀ j, j < m → w.cell? ⟨b, off + i * m + j, none⟩ = some ((enc (l.getD i default)).getD j undef)
/-- a slice value that reads as the list l, whose cells lie below block B0 -/
def SlG (m : Nat) (enc : α → List Value) (w : World) (B0 : Nat) (v : Value) (l : List α) : Prop :=
  l.length ≤ 9223372036854775807 ∧ ∃ (A : Option Addr) (c : Nat), v = .slice A l.length c ∧ (0 < l.length → ∃ b off, A = some ⟨b, off, none⟩ ∧ b < B0 ∧ CellsG m enc w b off l)
theorem CellsG.keep {w w' : World} {b off : Nat} {l : List α} (h : CellsG m enc w b off l) (hk : w'.heap[b]? = w.heap[b]?) : CellsG m enc w' b off l :=
  fun i hi j hj => (World.cell?_of_block (w := w) hk).trans (h i hi j hj)
theorem SlG.keep {w w' : World} {B0 : Nat} {v : Value} {l : List α} (h : SlG m enc w B0 v l) (hk : ∀ b, b < B0 → w'.heap[b]? = w.heap[b]?) : SlG m enc w' B0 v l := by
  obtain ⟨hl, A, c, rfl, h⟩ := h
  refine ⟨hl, A, c, rfl, fun hp => ?_⟩
  obtain ⟨b, off, rfl, hb, hE⟩ := h hp
  exact ⟨b, off, rfl, hb, hE.keep (hk b hb)⟩
theorem SlG.below {w w' : World} {B0 : Nat} {v : Value} {l : List α} (h : SlG m enc w B0 v l) (hb : Below B0 w w') : SlG m enc w' B0 v l := h.keep hb.block
theorem SlG.mono {w : World} {B0 B1 : Nat} {v : Value} {l : List α} (h : SlG m enc w B0 v l) (hB : B0 ≤ B1) : SlG m enc w B1 v l := by
  obtain ⟨hl, A, c, rfl, h⟩ := h
  refine ⟨hl, A, c, rfl, fun hp => ?_⟩
  obtain ⟨b, off, rfl, hb, hE⟩ := h hp
  exact ⟨b, off, rfl, by omega, hE⟩
theorem SlG.nil_ (w : World) (B0 : Nat) : SlG m enc w B0 (.slice none 0 0) ([] : List α) := ⟨by simp, none, 0, rfl, fun h => absurd h (by simp)⟩
end

/-- integers -/
def encI (n : Int) : List Value := [.int .i64 n]
abbrev SlI (w : World) (B0 : Nat) (v : Value) (l : List Int) : Prop := SlG 1 encI w B0 v l
theorem CellsG.int {w : World} {b off : Nat} {l : List Int} (h : CellsG 1 encI w b off l) {i : Nat} (hi : i < l.length) : w.cell? ⟨b, off + i, none⟩ = some (.int .i64 (l.getD i default)) := by
  have := h i hi 0 (by omega)
  simpa [encI] using this

/-- a block known whole -/
def Row (w : World) (g : Nat) (t : TypeId) (vs : List Value) : Prop := w.heap[g]? = some (.cells vs.toArray t (0, 0))
theorem Row.lt {w : World} {g : Nat} {t : TypeId} {vs : List Value} (h : Row w g t vs) : g < w.heap.size := (Array.getElem?_eq_some_iff.1 h).1
theorem Row.cell {w : World} {g : Nat} {t : TypeId} {vs : List Value} (h : Row w g t vs) (i : Nat) : w.cell? ⟨g, i, none⟩ = vs[i]? := by
  unfold Row at h; simp [World.cell?, h]
theorem Row.frozen {w : World} {g : Nat} {t : TypeId} {vs : List Value} (h : Row w g t vs) (i : Nat) : w.frozen? ⟨g, i, none⟩ = false := by
  unfold Row at h; simp [World.frozen?, h]
theorem Row.new (w : World) (t : TypeId) (vs : List Value) : Row (w.alloc (.cells vs.toArray t)) w.heap.size t vs := World.alloc_heap_new w _
theorem Row.keep {w w' : World} {g : Nat} {t : TypeId} {vs : List Value} (h : Row w g t vs) (hk : w'.heap[g]? = w.heap[g]?) : Row w' g t vs := hk.trans h
theorem Row.alloc {w : World} {g : Nat} {t : TypeId} {vs : List Value} (h : Row w g t vs) (o : Obj) : Row (w.alloc o) g t vs := h.keep (Below.heap_alloc w o g h.lt)
theorem Row.other {w : World} {g : Nat} {t : TypeId} {vs : List Value} (h : Row w g t vs) {p : Addr} (hp : g ≠ p.block) (u : Value) : Row (w.setCell p u) g t vs := h.keep (Below.heap_setCell w p u g hp)
theorem Row.below {w w' : World} {g n : Nat} {t : TypeId} {vs : List Value} (h : Row w g t vs) (hb : Below n w w') (hg : g < n) : Row w' g t vs := h.keep (hb.block g hg)
theorem Row.store {w : World} {g : Nat} {t : TypeId} {vs : List Value} (h : Row w g t vs) (i : Nat) (u : Value) : Row (w.setCell ⟨g, i, none⟩ u) g t (vs.set i u) := by
  unfold Row at h ⊢
  obtain ⟨hlt, hk⟩ := Array.getElem?_eq_some_iff.1 h
  show (w.heap.modify g _)[g]? = _
  rw [Array.getElem?_eq_getElem (by rw [Array.size_modify]; exact hlt), Array.getElem_modify_self, hk]
  simp
/-- a whole block reads as a list -/
theorem Row.sl {α : Type} [Inhabited α] {m : Nat} {enc : α → List Value} {w : World} {g c : Nat} {t : TypeId} {l : List α} (h : Row w g t (l.flatMap enc)) (hm : ∀ a, (enc a).length = m) (hl : l.length ≤ 9223372036854775807) {B0 : Nat} (hB : g < B0) :
    SlG m enc w B0 (.slice (some ⟨g, 0, none⟩) l.length c) l := by
  refine ⟨hl, _, _, rfl, fun _ => ⟨g, 0, rfl, hB, ?_⟩⟩
  have key : ∀ (l : List α) (i j : Nat), i < l.length → j < m → (l.flatMap enc)[i * m + j]? = some ((enc (l.getD i default)).getD j undef) := by
    intro l
    induction l with
    | nil => intro i j hi; simp at hi
    | cons a l ih =>
      intro i j hi hj
      rw [List.flatMap_cons]
      cases i with
      | zero =>
        rw [Nat.zero_mul, Nat.zero_add, List.getElem?_append_left (by rw [hm]; exact hj)]
        simp [hm, hj]
      | succ i =>
        rw [List.getElem?_append_right (by rw [hm, Nat.succ_mul]; omega), hm]
        have e : (i + 1) * m + j - m = i * m + j := by rw [Nat.succ_mul]; omega
        rw [e, ih i j (by simpa using hi) hj]
        simp
  intro i hi j hj
  rw [h.cell, Nat.zero_add, key l i j hi hj]
end Fk

namespace Go.Proofs.YthckledagggoiaaGreatDoor
open Go.RowKit Fk Sha
/-! The small functions of the hash: turning a word round. -/
theorem ret_u32 {a b : Int} (h : a = b) : Ending.returned (.int .u32 a) = .returned (.int .u32 b) := by rw [h]
theorem rr_lit2 (x : W) : bits .or .u32 (IntKind.u32.wrap (un x * (1073741824 : Int))) (un x / (4 : Int)) = un (rr x 2) := by
  have h := rr_n x 2
  rw [show ((2 : Int) ^ (32 - 2)) = 1073741824 by decide, show ((2 : Int) ^ 2) = 4 by decide] at h
  exact h
theorem shr_lit3 (x : W) : un x / (8 : Int) = un (x >>> 3) := by
  have h := shr_n x 3
  rw [show ((2 : Int) ^ 3) = 8 by decide] at h
  exact h
theorem rr_lit6 (x : W) : bits .or .u32 (IntKind.u32.wrap (un x * (67108864 : Int))) (un x / (64 : Int)) = un (rr x 6) := by
  have h := rr_n x 6
  rw [show ((2 : Int) ^ (32 - 6)) = 67108864 by decide, show ((2 : Int) ^ 6) = 64 by decide] at h
  exact h
theorem rr_lit7 (x : W) : bits .or .u32 (IntKind.u32.wrap (un x * (33554432 : Int))) (un x / (128 : Int)) = un (rr x 7) := by
  have h := rr_n x 7
  rw [show ((2 : Int) ^ (32 - 7)) = 33554432 by decide, show ((2 : Int) ^ 7) = 128 by decide] at h
  exact h
theorem shr_lit10 (x : W) : un x / (1024 : Int) = un (x >>> 10) := by
  have h := shr_n x 10
  rw [show ((2 : Int) ^ 10) = 1024 by decide] at h
  exact h
theorem rr_lit11 (x : W) : bits .or .u32 (IntKind.u32.wrap (un x * (2097152 : Int))) (un x / (2048 : Int)) = un (rr x 11) := by
  have h := rr_n x 11
  rw [show ((2 : Int) ^ (32 - 11)) = 2097152 by decide, show ((2 : Int) ^ 11) = 2048 by decide] at h
  exact h
theorem rr_lit13 (x : W) : bits .or .u32 (IntKind.u32.wrap (un x * (524288 : Int))) (un x / (8192 : Int)) = un (rr x 13) := by
  have h := rr_n x 13
  rw [show ((2 : Int) ^ (32 - 13)) = 524288 by decide, show ((2 : Int) ^ 13) = 8192 by decide] at h
  exact h
theorem rr_lit17 (x : W) : bits .or .u32 (IntKind.u32.wrap (un x * (32768 : Int))) (un x / (131072 : Int)) = un (rr x 17) := by
  have h := rr_n x 17
  rw [show ((2 : Int) ^ (32 - 17)) = 32768 by decide, show ((2 : Int) ^ 17) = 131072 by decide] at h
  exact h
theorem rr_lit18 (x : W) : bits .or .u32 (IntKind.u32.wrap (un x * (16384 : Int))) (un x / (262144 : Int)) = un (rr x 18) := by
  have h := rr_n x 18
  rw [show ((2 : Int) ^ (32 - 18)) = 16384 by decide, show ((2 : Int) ^ 18) = 262144 by decide] at h
  exact h
theorem rr_lit19 (x : W) : bits .or .u32 (IntKind.u32.wrap (un x * (8192 : Int))) (un x / (524288 : Int)) = un (rr x 19) := by
  have h := rr_n x 19
  rw [show ((2 : Int) ^ (32 - 19)) = 8192 by decide, show ((2 : Int) ^ 19) = 524288 by decide] at h
  exact h
theorem rr_lit22 (x : W) : bits .or .u32 (IntKind.u32.wrap (un x * (1024 : Int))) (un x / (4194304 : Int)) = un (rr x 22) := by
  have h := rr_n x 22
  rw [show ((2 : Int) ^ (32 - 22)) = 1024 by decide, show ((2 : Int) ^ 22) = 4194304 by decide] at h
  exact h
theorem rr_lit25 (x : W) : bits .or .u32 (IntKind.u32.wrap (un x * (128 : Int))) (un x / (33554432 : Int)) = un (rr x 25) := by
  have h := rr_n x 25
  rw [show ((2 : Int) ^ (32 - 25)) = 128 by decide, show ((2 : Int) ^ 25) = 33554432 by decide] at h
  exact h
theorem rot_2 (x : W) (w : World) :
    Calls Tryz.prog 182 #[u x, .int .i64 (-2)] w fun e w' => e = .returned (u (rr x 2)) ∧ w = w' := by
  unfold u
  have hx := (un_bd x).1
  have e1 : bits BinOp.and IntKind.u64 (IntKind.u64.wrap (-2)) 31 = 30 := by decide +kernel
  go_enter Tryz.func182, Tryz.ntmps182
  go_wp2
  go_ret
  exact ⟨ret_u32 (rr_lit2 x), rfl⟩
theorem rot_6 (x : W) (w : World) :
    Calls Tryz.prog 182 #[u x, .int .i64 (-6)] w fun e w' => e = .returned (u (rr x 6)) ∧ w = w' := by
  unfold u
  have hx := (un_bd x).1
  have e1 : bits BinOp.and IntKind.u64 (IntKind.u64.wrap (-6)) 31 = 26 := by decide +kernel
  go_enter Tryz.func182, Tryz.ntmps182
  go_wp2
  go_ret
  exact ⟨ret_u32 (rr_lit6 x), rfl⟩
theorem rot_7 (x : W) (w : World) :
    Calls Tryz.prog 182 #[u x, .int .i64 (-7)] w fun e w' => e = .returned (u (rr x 7)) ∧ w = w' := by
  unfold u
  have hx := (un_bd x).1
  have e1 : bits BinOp.and IntKind.u64 (IntKind.u64.wrap (-7)) 31 = 25 := by decide +kernel
  go_enter Tryz.func182, Tryz.ntmps182
  go_wp2
  go_ret
  exact ⟨ret_u32 (rr_lit7 x), rfl⟩
theorem rot_11 (x : W) (w : World) :
    Calls Tryz.prog 182 #[u x, .int .i64 (-11)] w fun e w' => e = .returned (u (rr x 11)) ∧ w = w' := by
  unfold u
  have hx := (un_bd x).1
  have e1 : bits BinOp.and IntKind.u64 (IntKind.u64.wrap (-11)) 31 = 21 := by decide +kernel
  go_enter Tryz.func182, Tryz.ntmps182
  go_wp2
  go_ret
  exact ⟨ret_u32 (rr_lit11 x), rfl⟩
theorem rot_13 (x : W) (w : World) :
    Calls Tryz.prog 182 #[u x, .int .i64 (-13)] w fun e w' => e = .returned (u (rr x 13)) ∧ w = w' := by
  unfold u
  have hx := (un_bd x).1
  have e1 : bits BinOp.and IntKind.u64 (IntKind.u64.wrap (-13)) 31 = 19 := by decide +kernel
  go_enter Tryz.func182, Tryz.ntmps182
  go_wp2
  go_ret
  exact ⟨ret_u32 (rr_lit13 x), rfl⟩
theorem rot_17 (x : W) (w : World) :
    Calls Tryz.prog 182 #[u x, .int .i64 (-17)] w fun e w' => e = .returned (u (rr x 17)) ∧ w = w' := by
  unfold u
  have hx := (un_bd x).1
  have e1 : bits BinOp.and IntKind.u64 (IntKind.u64.wrap (-17)) 31 = 15 := by decide +kernel
  go_enter Tryz.func182, Tryz.ntmps182
  go_wp2
  go_ret
  exact ⟨ret_u32 (rr_lit17 x), rfl⟩
theorem rot_18 (x : W) (w : World) :
    Calls Tryz.prog 182 #[u x, .int .i64 (-18)] w fun e w' => e = .returned (u (rr x 18)) ∧ w = w' := by
  unfold u
  have hx := (un_bd x).1
  have e1 : bits BinOp.and IntKind.u64 (IntKind.u64.wrap (-18)) 31 = 14 := by decide +kernel
  go_enter Tryz.func182, Tryz.ntmps182
  go_wp2
  go_ret
  exact ⟨ret_u32 (rr_lit18 x), rfl⟩
theorem rot_19 (x : W) (w : World) :
    Calls Tryz.prog 182 #[u x, .int .i64 (-19)] w fun e w' => e = .returned (u (rr x 19)) ∧ w = w' := by
  unfold u
  have hx := (un_bd x).1
  have e1 : bits BinOp.and IntKind.u64 (IntKind.u64.wrap (-19)) 31 = 13 := by decide +kernel
  go_enter Tryz.func182, Tryz.ntmps182
  go_wp2
  go_ret
  exact ⟨ret_u32 (rr_lit19 x), rfl⟩
theorem rot_22 (x : W) (w : World) :
    Calls Tryz.prog 182 #[u x, .int .i64 (-22)] w fun e w' => e = .returned (u (rr x 22)) ∧ w = w' := by
  unfold u
  have hx := (un_bd x).1
  have e1 : bits BinOp.and IntKind.u64 (IntKind.u64.wrap (-22)) 31 = 10 := by decide +kernel
  go_enter Tryz.func182, Tryz.ntmps182
  go_wp2
  go_ret
  exact ⟨ret_u32 (rr_lit22 x), rfl⟩
theorem rot_25 (x : W) (w : World) :
    Calls Tryz.prog 182 #[u x, .int .i64 (-25)] w fun e w' => e = .returned (u (rr x 25)) ∧ w = w' := by
  unfold u
  have hx := (un_bd x).1
  have e1 : bits BinOp.and IntKind.u64 (IntKind.u64.wrap (-25)) 31 = 7 := by decide +kernel
  go_enter Tryz.func182, Tryz.ntmps182
  go_wp2
  go_ret
  exact ⟨ret_u32 (rr_lit25 x), rfl⟩
theorem rotated_6 (x : W) (w : World) :
    Calls Tryz.prog 183 #[u x, .int .i64 6, .int .i64 11, .int .i64 25] w fun e w' => e = .returned (u (rot3 x 6 11 25)) ∧ w = w' := by
  have h1 := fun w => rot_6 x w
  have h2 := fun w => rot_11 x w
  have h3 := fun w => rot_25 x w
  unfold u at *
  go_enter Tryz.func183, Tryz.ntmps183
  go_wp2_with (first
    | (go_at_call 182; (with_reducible refine (h1 _).mono ?_); rintro e w1 ⟨rfl, rfl⟩)
    | (go_at_call 182; (with_reducible refine (h2 _).mono ?_); rintro e w1 ⟨rfl, rfl⟩)
    | (go_at_call 182; (with_reducible refine (h3 _).mono ?_); rintro e w1 ⟨rfl, rfl⟩))
  go_ret
  exact ⟨ret_u32 (by unfold rot3; rw [xor_n, xor_n]), rfl⟩
theorem rotated_2 (x : W) (w : World) :
    Calls Tryz.prog 183 #[u x, .int .i64 2, .int .i64 13, .int .i64 22] w fun e w' => e = .returned (u (rot3 x 2 13 22)) ∧ w = w' := by
  have h1 := fun w => rot_2 x w
  have h2 := fun w => rot_13 x w
  have h3 := fun w => rot_22 x w
  unfold u at *
  go_enter Tryz.func183, Tryz.ntmps183
  go_wp2_with (first
    | (go_at_call 182; (with_reducible refine (h1 _).mono ?_); rintro e w1 ⟨rfl, rfl⟩)
    | (go_at_call 182; (with_reducible refine (h2 _).mono ?_); rintro e w1 ⟨rfl, rfl⟩)
    | (go_at_call 182; (with_reducible refine (h3 _).mono ?_); rintro e w1 ⟨rfl, rfl⟩))
  go_ret
  exact ⟨ret_u32 (by unfold rot3; rw [xor_n, xor_n]), rfl⟩
end Go.Proofs.YthckledagggoiaaGreatDoor

namespace Go.Proofs.YthckledagggoiaaGreatDoor
open Go.RowKit Fk Sha
/-! Four bytes are a word; a word is four bytes. -/
def bv (c : B) : Value := .int .u8 (bn c)
def encB (c : B) : List Value := [bv c]
abbrev SlB (w : World) (B0 : Nat) (v : Value) (l : List B) : Prop := SlG 1 encB w B0 v l
theorem wd_snoc (l : List B) (c : B) : wd (l ++ [c]) = wd l <<< 8 ||| c.setWidth 32 := by unfold wd; rw [List.foldl_append]; rfl
theorem take_snocB {l : List B} {k : Nat} (h : k < l.length) : l.take (k + 1) = l.take k ++ [l.getD k default] := by
  rw [List.take_succ_eq_append_getElem h, List.getD_eq_getElem?_getD, List.getElem?_eq_getElem h]; rfl
theorem wd_step {l : List B} {k : Nat} (h : k < l.length) : bits .or .u32 (un (wd (l.take k)) * (256 : Int) % 4294967296) (bn (l.getD k default)) = un (wd (l.take (k + 1))) := by
  rw [take_snocB h, wd_snoc]
  have e := shl_n (wd (l.take k)) 8
  rw [show ((2 : Int) ^ 8) = 256 by decide] at e
  rw [e, ← byte_n, or_n]
set_option maxHeartbeats 1000000 in
theorem word_any (l : List B) (b off len cap : Nat) (w : World) (hl : l.length = 4) (hlen : 4 ≤ cap) (hcap : cap ≤ 9223372036854775807) (h : ∀ i, i < 4 → w.cell? ⟨b, off + i, none⟩ = some (bv (l.getD i default))) :
    Calls Tryz.prog 181 #[.slice (some ⟨b, off, none⟩) len cap] w fun e w' => e = .returned (u (wd l)) ∧ w = w' := by
  have HC := Lib.hid h
  clear h
  unfold u
  go_enter Tryz.func181, Tryz.ntmps181
  go_wp2_with fail
  go_loopg [2, 8] 4 (fun g n i wr => w = wr ∧ ∃ k : Nat, i = .int .i64 k ∧ k + g = 4 ∧ n = .int .u32 (un (wd (l.take k))))
  case atStart => exact ⟨rfl, 0, rfl, by omega, rfl⟩
  case round =>
    obtain ⟨rfl, k, rfl, hk, rfl⟩ := hrel
    by_cases hlt : k < 4
    · have d := HC.out k hlt
      have hs := wd_step (show k < l.length by omega)
      obtain ⟨x, hx⟩ : ∃ x, l.getD k default = x := ⟨_, rfl⟩
      rw [hx] at d hs
      obtain ⟨hx0, hx1⟩ := bn_bd x
      unfold bv at d
      clear hx
      generalize bn x = c at *
      generalize un (wd (l.take k)) = n at *
      have HS := Lib.hid hs
      clear hs
      go_wp2_with fail
      go_roundg (gk - 1)
      case measure => omega
      case rel => exact ⟨rfl, k + 1, by go_num, by omega, by rw [← HS.out]⟩
    · obtain rfl : k = 4 := by omega
      have hs : l.take 4 = l := List.take_of_length_le (by omega)
      rw [hs]
      go_wp2_with fail
      go_ret
      exact ⟨rfl, rfl⟩

/-! ### put -/
theorem grownBy_trans {a b c : World} {row : Option Nat} (h : a.grownBy b row) (k : b.grownBy c row) : a.grownBy c row :=
  ⟨k.os.trans h.os, k.tape.trans h.tape, k.output.trans h.output, Nat.le_trans h.size k.size, fun i hi hne => (k.block i (Nat.lt_of_lt_of_le hi h.size) hne).trans (h.block i hi hne)⟩
theorem grownBy_set (w : World) (g i : Nat) (v : Value) : w.grownBy (w.setCell ⟨g, i, none⟩ v) (some g) :=
  ⟨rfl, rfl, rfl, by simp [World.setCell], fun k hk hne => Below.heap_setCell _ _ _ _ (fun e => hne (by rw [e]))⟩
/-- the last k of n bytes are written over the cells from off on -/
def putTo (n off x k : Nat) (vs : List Value) : List Value := vs.take (off + (n - k)) ++ (((be n x).drop (n - k)).map bv ++ vs.drop (off + n))
theorem putTo_zero (n off x : Nat) (vs : List Value) : putTo n off x 0 vs = vs := by
  unfold putTo
  rw [List.drop_of_length_le (by rw [be_length]; omega)]
  simp
theorem be_getD {n x i : Nat} (h : i < n) : (be n x)[i]? = some (BitVec.ofNat 8 (x / 2 ^ (8 * (n - 1 - i)))) := by
  unfold be; rw [List.getElem?_map, List.getElem?_range h]; rfl
theorem putTo_length {n off x k : Nat} {vs : List Value} (h : off + n ≤ vs.length) : (putTo n off x k vs).length = vs.length := by unfold putTo; simp [be_length]; omega
theorem putTo_get {n off x k : Nat} {vs : List Value} (h : off + n ≤ vs.length) (hk : k ≤ n) (i : Nat) :
    (putTo n off x k vs)[i]? = if off + (n - k) ≤ i ∧ i < off + n then some (bv (BitVec.ofNat 8 (x / 2 ^ (8 * (n - 1 - (i - off)))))) else vs[i]? := by
  have hl1 : (vs.take (off + (n - k))).length = off + (n - k) := by rw [List.length_take]; omega
  have hl2 : (((be n x).drop (n - k)).map bv).length = k := by rw [List.length_map, List.length_drop, be_length]; omega
  unfold putTo
  by_cases h1 : i < off + (n - k)
  · rw [List.getElem?_append_left (by rw [hl1]; exact h1), List.getElem?_take_of_lt h1, if_neg (by omega)]
  · rw [List.getElem?_append_right (by rw [hl1]; omega), hl1]
    by_cases h2 : i < off + n
    · rw [List.getElem?_append_left (by rw [hl2]; omega), List.getElem?_map, List.getElem?_drop, if_pos (by omega), be_getD (by omega)]
      show some _ = some _
      congr 5
      omega
    · rw [List.getElem?_append_right (by rw [hl2]; omega), hl2, List.getElem?_drop, if_neg (by omega)]
      congr 1
      omega
theorem putTo_succ {n off x k : Nat} {vs : List Value} (h : off + n ≤ vs.length) (hk : k < n) :
    (putTo n off x k vs).set (off + (n - 1 - k)) (.int .u8 (((x / 2 ^ (8 * k)) % 256 : Nat) : Int)) = putTo n off x (k + 1) vs := by
  apply List.ext_getElem?
  intro i
  rw [List.getElem?_set, putTo_get h (by omega), putTo_get h (by omega), putTo_length h]
  by_cases hi : off + (n - 1 - k) = i
  · rw [if_pos hi, if_pos (by omega), if_pos (by omega)]
    unfold bv bn
    rw [BitVec.toNat_ofNat, show n - 1 - (i - off) = k by omega]
  · rw [if_neg hi]
    by_cases h1 : off + (n - k) ≤ i ∧ i < off + n
    · rw [if_pos h1, if_pos (by omega)]
    · rw [if_neg h1, if_neg (by omega)]
set_option maxHeartbeats 1000000 in
theorem put_any (n off cap x g : Nat) (t : TypeId) (vs : List Value) (w : World) (hR : Row w g t vs) (h : off + n ≤ vs.length) (hx : x < 18446744073709551616) (hn : n ≤ 8) :
    Calls Tryz.prog 161 #[.slice (some ⟨g, off, none⟩) n cap, .int .u64 (x : Int)] w fun e w' => e = .returned (.tuple #[]) ∧ Row w' g t (putTo n off x n vs) ∧ w.grownBy w' (some g) := by
  go_enter Tryz.func161, Tryz.ntmps161
  go_wp2_with fail
  go_loopg [7] n (fun gk i wr => w.grownBy wr (some g) ∧ ∃ k : Nat, i = .int .i64 k ∧ k + gk = n ∧ Row wr g t (putTo n off x k vs))
  case atStart => exact ⟨World.grownBy.refl _ _, 0, rfl, by omega, by rw [putTo_zero]; exact hR⟩
  case round =>
    obtain ⟨hg, k, rfl, hk, hRk⟩ := hrel
    by_cases hlt : k < n
    · have hf := Row.frozen hRk (off + (n - 1 - k))
      obtain ⟨v0, hv0⟩ : ∃ v0, (putTo n off x k vs)[off + (n - 1 - k)]? = some v0 := ⟨_, List.getElem?_eq_getElem (by rw [putTo_length h]; omega)⟩
      have hs := (Row.cell hRk (off + (n - 1 - k))).trans hv0
      have hp := putTo_succ (x := x) h hlt
      rw [Int.natCast_emod, Int.natCast_ediv, Int.natCast_pow] at hp
      have hx0 : (0 : Int) ≤ x := Int.natCast_nonneg _
      have hx1 : (x : Int) < 18446744073709551616 := by omega
      have hR2 := Row.store hRk (off + (n - 1 - k)) (.int .u8 ((x : Int) / 2 ^ (8 * k) % 256))
      have e256 : ((256 : Nat) : Int) = 256 := rfl
      have e2 : ((2 : Nat) : Int) = 2 := rfl
      rw [e256, e2] at hp
      rw [hp] at hR2
      have hg2 := grownBy_trans hg (grownBy_set wr g (off + (n - 1 - k)) (.int .u8 ((x : Int) / 2 ^ (8 * k) % 256)))
      have HR := Lib.hid hR2
      have HG := Lib.hid hg2
      clear hp hR2 hg2 e256 e2 hv0 hR hRk hg
      generalize hX : (x : Int) = X at *
      clear hX
      go_wp2_with fail
      go_roundg (gk - 1)
      case measure => omega
      case rel => exact ⟨HG.out, k + 1, by go_num, by omega, HR.out⟩
    · obtain rfl : k = n := by omega
      go_wp2_with fail
      go_end0
      exact ⟨rfl, hRk, hg⟩
end Go.Proofs.YthckledagggoiaaGreatDoor

namespace Go.Proofs.YthckledagggoiaaGreatDoor
open Go.RowKit Fk Sha
/-! A block is absorbed. -/
theorem st_of {P : Program} {f : FuncId} {args : Array Value} {w : World} {r : Ending} (h : Calls P f args w fun e w' => e = r ∧ w = w') : Calls P f args w fun e w' => e = r ∧ w' = w :=
  h.mono fun _ _ ⟨h1, h2⟩ => ⟨h1, h2.symm⟩
theorem add_n4 (a b c d : Sha.W) : (un a + un b + un c + un d) % 4294967296 = un (a + b + c + d) := by
  unfold un; rw [BitVec.toNat_add, BitVec.toNat_add, BitVec.toNat_add]; omega
theorem st8 {W : World} {b : Nat} {t : TypeId} {s : St} (h : Row W b t (s.list.map u)) : W.cell? ⟨b, 0, none⟩ = some (.int .u32 (un s.a)) ∧ W.cell? ⟨b, 1, none⟩ = some (.int .u32 (un s.b)) ∧ W.cell? ⟨b, 2, none⟩ = some (.int .u32 (un s.c)) ∧ W.cell? ⟨b, 3, none⟩ = some (.int .u32 (un s.d)) ∧ W.cell? ⟨b, 4, none⟩ = some (.int .u32 (un s.e)) ∧ W.cell? ⟨b, 5, none⟩ = some (.int .u32 (un s.f)) ∧ W.cell? ⟨b, 6, none⟩ = some (.int .u32 (un s.g)) ∧ W.cell? ⟨b, 7, none⟩ = some (.int .u32 (un s.h)) :=
  ⟨Row.cell h 0, Row.cell h 1, Row.cell h 2, Row.cell h 3, Row.cell h 4, Row.cell h 5, Row.cell h 6, Row.cell h 7⟩
theorem addr_add0 (b off k : Nat) : (Addr.add ⟨b, off, none⟩ k) = ⟨b, off + k, none⟩ := by
  unfold Addr.add; split
  · subst k; rfl
  · rfl
/-- the first k words are summed up -/
def mixL (s t : St) (k : Nat) : List Value := ((s.add t).list.take k ++ s.list.drop k).map u
theorem mixL_at (s t : St) {k : Nat} (h : k < 8) : (mixL s t k)[k]? = some (u (s.list.getD k 0)) := by
  rcases (show k = 0 ∨ k = 1 ∨ k = 2 ∨ k = 3 ∨ k = 4 ∨ k = 5 ∨ k = 6 ∨ k = 7 by omega) with rfl | rfl | rfl | rfl | rfl | rfl | rfl | rfl <;> rfl
theorem mixL_set (s t : St) {k : Nat} (h : k < 8) : (mixL s t k).set k (u (s.list.getD k 0 + t.list.getD k 0)) = mixL s t (k + 1) := by
  rcases (show k = 0 ∨ k = 1 ∨ k = 2 ∨ k = 3 ∨ k = 4 ∨ k = 5 ∨ k = 6 ∨ k = 7 by omega) with rfl | rfl | rfl | rfl | rfl | rfl | rfl | rfl <;> rfl
/-- the tables as the program's text lays them -/
def Tab (w : World) : Prop := (∀ i, i < 64 → w.cell? ⟨1, i, none⟩ = some (u (numbersL.getD i 0))) ∧ (∀ i, i < 8 → w.cell? ⟨0, i, none⟩ = some (u (startS.list.getD i 0)))
theorem Tab.keep {w w' : World} (h : Tab w) {g : Nat} (hg : 1 < g ∧ 0 < g) (hk : ∀ b, b < g → w'.heap[b]? = w.heap[b]?) : Tab w' :=
  ⟨fun i hi => (World.cell?_of_block (w := w) (a := ⟨1, i, none⟩) (hk _ hg.1)).trans (h.1 i hi), fun i hi => (World.cell?_of_block (w := w) (a := ⟨0, i, none⟩) (hk _ hg.2)).trans (h.2 i hi)⟩
/-- the block of the words: the first ones are laid -/
structure Wd (w W : World) (l : List Sha.W) : Prop where
  below : Below w.heap.size w W
  size : W.heap.size = w.heap.size + 1
  row : Row W w.heap.size 230 (l.map u ++ List.replicate (64 - l.length) (.int .u32 0))
theorem Wd.get {w W : World} {l : List Sha.W} (h : Wd w W l) {i : Nat} (hi : i < l.length) : W.cell? ⟨w.heap.size, i, none⟩ = some (u (l.getD i 0)) := by
  rw [Row.cell h.row, List.getElem?_append_left (by simpa using hi), List.getElem?_map, List.getD_eq_getElem?_getD, List.getElem?_eq_getElem hi]; rfl
theorem Wd.put {w W : World} {l : List Sha.W} (h : Wd w W l) {k : Nat} (hk : l.length = k) (hlt : k < 64) (x : Sha.W) : Wd w (W.setCell ⟨w.heap.size, k, none⟩ (u x)) (l ++ [x]) := by
  refine ⟨h.below.setCell (Nat.le_refl _) _, by simp [World.setCell, h.size], ?_⟩
  have := Row.store h.row k (u x)
  subst hk
  have e : (List.map u l ++ List.replicate (64 - l.length) (Value.int IntKind.u32 0)).set l.length (u x) = List.map u (l ++ [x]) ++ List.replicate (64 - (l ++ [x]).length) (Value.int IntKind.u32 0) := by
    obtain ⟨n, hn⟩ : ∃ n, 64 - l.length = n + 1 := ⟨64 - l.length - 1, by omega⟩
    rw [List.set_append_right _ _ (by simp), hn, List.length_append, show 64 - (l.length + [x].length) = n by simp; omega]
    simp [List.replicate_succ]
  rw [e] at this
  exact this
theorem Wd.drewN {w W : World} {l : List Sha.W} (h : Wd w W l) (n : Nat) : Wd w (W.drewN n) l := ⟨⟨h.below.os, h.below.tape, h.below.output, h.below.size, h.below.block⟩, h.size, h.row⟩
theorem Wd.drew {w W : World} {l : List Sha.W} (h : Wd w W l) : Wd w W.drew l := ⟨h.below.drew, h.size, h.row⟩
set_option maxRecDepth 100000 in
set_option maxHeartbeats 4000000 in
theorem absorb_any (s : St) (blk : List B) (g bg off cap : Nat) (w : World) (hS : Row w g 206 (s.list.map u)) (hl : blk.length = 64) (hcap : 64 ≤ cap) (hcap2 : cap ≤ 9223372036854775807)
    (hB : ∀ i, i < 64 → w.cell? ⟨bg, off + i, none⟩ = some (bv (blk.getD i default))) (hbg : bg < w.heap.size) (hT : Tab w) (hg : 1 < g) :
    Calls Tryz.prog 160 #[.pointer (some ⟨g, 0, none⟩), .slice (some ⟨bg, off, none⟩) 64 cap] w fun e w' => e = .returned (.tuple #[]) ∧ Row w' g 206 ((absorb s blk).list.map u) ∧ w.grownBy w' (some g) := by
  go_enter Tryz.func160, Tryz.ntmps160
  go_wp2_with fail
  have hb := Lib.hid hB
  have hT' := Lib.hid hT
  have hS' := Lib.hid hS
  have hl16 := fun k => first16_length blk k
  have hwd : Wd w (w.alloc (Obj.cells (List.replicate 64 (Value.int IntKind.u32 0)).toArray 230)) [] := ⟨(Below.refl _ _).alloc (Nat.le_refl _) _, by simp, Row.new w _ _⟩
  clear hB hT hS
  go_loopg [14] 16 (fun gk i wr => ∃ k : Nat, i = .int .i64 k ∧ k + gk = 16 ∧ Wd w wr (first16 blk k))
  case atStart => exact ⟨0, rfl, rfl, hwd⟩
  case round =>
    obtain ⟨k, rfl, hk, hR⟩ := hrel
    by_cases hlt : k < 16
    · have hc : ∀ i, i < 4 → wr.cell? ⟨bg, off + 4 * k + i, none⟩ = some (bv (((blk.drop (4 * k)).take 4).getD i default)) := fun i hi => by
        rw [hR.below.cell (p := ⟨bg, off + 4 * k + i, none⟩) hbg, Nat.add_assoc, hb.out _ (by omega), List.getD_eq_getElem?_getD, List.getD_eq_getElem?_getD, List.getElem?_take_of_lt hi, List.getElem?_drop]
      have hw := fun len cap h1 h2 => word_any ((blk.drop (4 * k)).take 4) bg (off + 4 * k) len cap wr (by simp; omega) h1 h2 hc
      have hp := hR.put (hl16 k) (by omega) (wd ((blk.drop (4 * k)).take 4))
      have hf := Row.frozen hR.row k
      have hcl : ∃ v, wr.cell? ⟨w.heap.size, k, none⟩ = some v := ⟨_, (Row.cell hR.row k).trans (List.getElem?_eq_getElem (by simp [hl16]; omega))⟩
      obtain ⟨v0, hv0⟩ := hcl
      unfold u at hw hp
      generalize un (wd ((blk.drop (4 * k)).take 4)) = x at *
      have HW := Lib.hid hw
      have HP := Lib.hid hp
      clear hw hp hc hR hl16 hwd
      go_wp2_with (go_at_call 181; (with_reducible refine (HW.out _ _ (by omega) (by omega)).mono ?_); rintro e w1 ⟨rfl, rfl⟩)
      go_roundg (gk - 1)
      case measure => omega
      case rel => exact ⟨k + 1, by go_num, by omega, HP.out⟩
    · obtain rfl : k = 16 := by omega
      have hsc : Wd w wr (sched blk 0) := hR
      clear hR hwd
      go_wp2_with fail
      clear hl16
      go_loopg [6] 48 (fun gk i wr => ∃ k : Nat, i = .int .i64 k ∧ 16 ≤ k ∧ k + gk = 64 ∧ Wd w wr (sched blk (k - 16)))
      case atStart => exact ⟨16, rfl, by omega, rfl, hsc⟩
      case round =>
        obtain ⟨k, rfl, hk16, hk, hR⟩ := hrel
        by_cases hlt : k < 64
        · have hlen := sched_length blk (k - 16)
          have HRk := Lib.hid hR
          have c15 := hR.get (i := k - 15) (by omega)
          have c2 := hR.get (i := k - 2) (by omega)
          obtain ⟨X, hX⟩ : ∃ X, (sched blk (k - 16)).getD (k - 15) 0 = X := ⟨_, rfl⟩
          obtain ⟨Y, hY⟩ : ∃ Y, (sched blk (k - 16)).getD (k - 2) 0 = Y := ⟨_, rfl⟩
          rw [hX] at c15
          rw [hY] at c2
          have HX := Lib.hid hX
          have HY := Lib.hid hY
          clear hR hsc hlen hX hY
          unfold u at c15 c2
          have s1 : IntKind.i64.wrap ((k : Int) - 15) = (k : Int) - 15 := IntWalk.i64_in _ (by omega)
          have s2 : IntKind.i64.wrap ((k : Int) - 2) = (k : Int) - 2 := IntWalk.i64_in _ (by omega)
          have s3 : (0 : Int) ≤ (k : Int) - 15 := by omega
          have s4 : (k : Int) - 15 < 64 := by omega
          have s5 : (0 : Int) ≤ (k : Int) - 2 := by omega
          have s6 : (k : Int) - 2 < 64 := by omega
          have s7 : ((k : Int) - 15).toNat = k - 15 := by omega
          have s8 : ((k : Int) - 2).toNat = k - 2 := by omega
          go_wp2_with fail
          go_quiet (fail)
          clear c15 c2 s1 s2 s3 s4 s5 s6 s7 s8
          go_wp2_with fail
          have hR := HRk.out.drewN nq
          clear HRk
          generalize wr.drewN nq = W2 at *
          have hlen := sched_length blk (k - 16)
          have c16 := hR.get (i := k - 16) (by omega)
          have c7 := hR.get (i := k - 7) (by omega)
          have hp := hR.put (k := k) (by omega) hlt (nextW (sched blk (k - 16)) k)
          have hf := Row.frozen hR.row k
          obtain ⟨v0, hv0⟩ : ∃ v, W2.cell? ⟨w.heap.size, k, none⟩ = some v := ⟨_, (Row.cell hR.row k).trans (List.getElem?_eq_getElem (by simp; omega))⟩
          have e1 : sched blk (k + 1 - 16) = sched blk (k - 16) ++ [nextW (sched blk (k - 16)) k] := by
            have : nextW (sched blk (k - 16)) k = nextW (sched blk (k - 16)) (16 + (k - 16)) := by rw [show 16 + (k - 16) = k by omega]
            rw [this, show k + 1 - 16 = (k - 16) + 1 by omega]; rfl
          rw [← e1] at hp
          have hn : nextW (sched blk (k - 16)) k = (sched blk (k - 16)).getD (k - 16) 0 + s0 ((sched blk (k - 16)).getD (k - 15) 0) + (sched blk (k - 16)).getD (k - 7) 0 + s1 ((sched blk (k - 16)).getD (k - 2) 0) := rfl
          rw [hn, HX.out, HY.out] at hp
          generalize (sched blk (k - 16)).getD (k - 16) 0 = A at *
          generalize (sched blk (k - 16)).getD (k - 7) 0 = Z at *
          have r7 := fun w => st_of (rot_7 X w)
          have r18 := fun w => st_of (rot_18 X w)
          have r17 := fun w => st_of (rot_17 Y w)
          have r19 := fun w => st_of (rot_19 Y w)
          have q3 := shr_lit3 X
          have q10 := shr_lit10 Y
          have HP := Lib.hid hp
          clear hp e1 hR hlen hn
          unfold u at c16 c7 r7 r18 r17 r19
          have bX := un_bd X
          have bY := un_bd Y
          have s1 : IntKind.i64.wrap ((k : Int) - 16) = (k : Int) - 16 := IntWalk.i64_in _ (by omega)
          have s2 : IntKind.i64.wrap ((k : Int) - 7) = (k : Int) - 7 := IntWalk.i64_in _ (by omega)
          have s3 : (0 : Int) ≤ (k : Int) - 16 := by omega
          have s4 : (k : Int) - 16 < 64 := by omega
          have s5 : (0 : Int) ≤ (k : Int) - 7 := by omega
          have s6 : (k : Int) - 7 < 64 := by omega
          have s7 : ((k : Int) - 16).toNat = k - 16 := by omega
          have s8 : ((k : Int) - 7).toNat = k - 7 := by omega
          have s9 : (0 : Int) ≤ k := by omega
          have s10 : (k : Int) < 64 := by omega
          have s11 : (16 : Int) ≤ k := by omega
          have s12 : (7 : Int) ≤ k := by omega
          go_still_tail 29, (by kernel_rfl)
          still_call (r7 _)
          repeat still_step
          still_call (r18 _)
          repeat still_step
          still_call (r17 _)
          repeat still_step
          still_call (r19 _)
          repeat still_step
          refine wpStill_nil ?_
          change wpList _ _ _ _ _ W2.drew
          clear s1 s2 s3 s4 s5 s6 s7 s8 s11 s12 r7 r18 r17 r19
          go_wp2_with fail
          go_roundg (gk - 1)
          case measure => omega
          case rel =>
            refine ⟨k + 1, by go_num, by omega, by omega, ?_⟩
            rw [xor_n, xor_n, xor_n, xor_n, add_n4]
            exact HP.out.drew
        · obtain rfl : k = 64 := by omega
          have hsc : Wd w wr (sched blk 48) := hR
          clear hR
          have hS0 : Row wr g 206 (s.list.map u) := Row.keep hS'.out (hsc.below.block _ (Row.lt hS'.out))
          obtain ⟨c0, c1, c2, c3, c4, c5, c6, c7⟩ := st8 hS0
          have hz := hsc.size
          obtain ⟨vb, hvb⟩ : ∃ vb, wr.heap.size = vb := ⟨_, rfl⟩
          have HV := Lib.hid hvb
          have HSC := Lib.hid hsc
          clear hS0 hsc hz
          go_wp2_with fail
          obtain ⟨wo, rfl⟩ : ∃ wo : World, wo = wr := ⟨_, rfl⟩
          have hrow0 : Row (wo.alloc (.cells (s.list.map u).toArray 206)) vb 206 (s.list.map u) := hvb ▸ Row.new wo _ _
          have hbel0 : Below vb wo (wo.alloc (.cells (s.list.map u).toArray 206)) := hvb ▸ (Below.refl _ _).alloc (Nat.le_refl _) _
          clear hvb c0 c1 c2 c3 c4 c5 c6 c7
          go_loopg [69] 64 (fun gk i wx => ∃ k : Nat, i = .int .i64 k ∧ k + gk = 64 ∧ Below vb wo wx ∧ Row wx vb 206 ((rounds s (sched blk 48) k).list.map u))
          case atStart => exact ⟨0, rfl, rfl, hbel0, hrow0⟩
          case round =>
            clear hrow0 hbel0
            obtain ⟨k, rfl, hk, hbel, hrow⟩ := hrel
            by_cases hlt : k < 64
            · obtain ⟨c0, c1, c2, c3, c4, c5, c6, c7⟩ := st8 hrow
              have hzw : w.heap.size < vb := by have := HSC.out.size; have := HV.out; omega
              have cw : wr.cell? ⟨w.heap.size, k, none⟩ = some (u ((sched blk 48).getD k 0)) := (hbel.cell (p := ⟨w.heap.size, k, none⟩) hzw).trans (HSC.out.get (by rw [sched_length]; omega))
              have cn : wr.cell? ⟨1, k, none⟩ = some (u (numbersL.getD k 0)) := by
                have hgz := Row.lt hS'.out
                rw [hbel.cell (p := ⟨1, k, none⟩) (by simp only []; omega), HSC.out.below.cell (p := ⟨1, k, none⟩) (by simp only []; omega)]
                exact hT'.out.1 k hlt
              have hnext : rounds s (sched blk 48) (k + 1) = round (rounds s (sched blk 48) k) (numbersL.getD k 0) ((sched blk 48).getD k 0) := rfl
              obtain ⟨K, hK⟩ : ∃ K, numbersL.getD k 0 = K := ⟨_, rfl⟩
              obtain ⟨X, hX⟩ : ∃ X, (sched blk 48).getD k 0 = X := ⟨_, rfl⟩
              obtain ⟨t, ht⟩ : ∃ t, rounds s (sched blk 48) k = t := ⟨_, rfl⟩
              rw [hK] at cn hnext
              rw [hX] at cw hnext
              rw [ht] at c0 c1 c2 c3 c4 c5 c6 c7 hnext hrow
              have HN := Lib.hid hnext
              have HR := Lib.hid hrow
              have HB := Lib.hid hbel
              obtain ⟨ta, tb, tc, td, te, tf, tg, th⟩ := t
              simp only [] at c0 c1 c2 c3 c4 c5 c6 c7
              clear hK hX ht hnext hrow hbel
              have q1 := fun w => st_of (rotated_6 te w)
              have q2 := fun w => st_of (rotated_2 ta w)
              unfold u at cw cn q1 q2
              have s9 : (0 : Int) ≤ k := by omega
              have s10 : (k : Int) < 64 := by omega
              go_wp2_with fail
              go_quiet ((go_at_call 183; exact Calls.quiet_of_same (q1 _)))
              rw [xor_n, and_n, xor_n, add_n4, add_n]
              clear cw cn q1 s9 s10
              go_wp2_with fail
              generalize te_p : th + rot3 te 6 11 25 + (tg ^^^ te &&& (tf ^^^ tg)) + K + X = p
              have HPp := Lib.hid te_p
              have hrow : Row (wr.drewN nq) vb 206 ((⟨ta, tb, tc, td, te, tf, tg, th⟩ : St).list.map u) := HR.out
              have hbel : Below vb wo (wr.drewN nq) := ⟨HB.out.os, HB.out.tape, HB.out.output, HB.out.size, HB.out.block⟩
              clear te_p c0 c1 c2 c3 c4 c5 c6 c7 HR HB
              generalize wr.drewN nq = W3 at *
              obtain ⟨c0, c1, c2, c3, c4, c5, c6, c7⟩ := st8 hrow
              simp only [] at c0 c1 c2 c3 c4 c5 c6 c7
              have HR := Lib.hid hrow
              have HB := Lib.hid hbel
              clear hrow hbel
              go_quiet ((go_at_call 183; exact Calls.quiet_of_same (q2 _)))
              rw [and_n, or_n, and_n, or_n, add_n]
              clear c0 c1 c2 c3 c4 c5 c6 c7 q2
              generalize te_q : rot3 ta 2 13 22 + (ta &&& tb ||| tc &&& (ta ||| tb)) = q
              have HQ := Lib.hid te_q
              clear te_q
              go_wp2_with fail
              have hrow : Row (W3.drewN nq).drew vb 206 ((⟨ta, tb, tc, td, te, tf, tg, th⟩ : St).list.map u) := HR.out
              have hbel : Below vb wo (W3.drewN nq).drew := ⟨HB.out.os, HB.out.tape, HB.out.output, HB.out.size, HB.out.block⟩
              clear HR HB
              generalize W3.drewN nq = W4 at *
              go_still_tail 2, (by kernel_rfl)
              change wpList _ _ _ _ _ W4.drew
              generalize W4.drew = W5 at *
              refine wpList_copy_splice rfl (.tmp 116) (.tmp 117) 234 234 rfl 204 Tryz.underlying234 (by kernel_rfl) (some ⟨vb, 1, none⟩) (some ⟨vb, 0, none⟩) 7 7 7 8 rfl rfl vb 1 ((⟨ta, tb, tc, td, te, tf, tg, th⟩ : St).list.map u) 206 hrow [u ta, u tb, u tc, u td, u te, u tf, u tg] rfl (fun _ => ⟨rfl, ⟨vb, 0, none⟩, rfl, fun j v hj => ?_⟩) (by simp [St.list]) (fun v hv => ?_) vb wo hbel (Nat.le_refl _) ?_
              · rw [addr_add0, Row.cell hrow, Nat.zero_add]
                rcases j with _ | _ | _ | _ | _ | _ | _ | j
                all_goals first | exact hj | simp at hj
              · simp only [List.mem_cons, List.not_mem_nil, or_false] at hv
                rcases hv with rfl | rfl | rfl | rfl | rfl | rfl | rfl <;> rfl
              intro W6 hr6 hb6
              have hr : Row W6 vb 206 [u ta, u ta, u tb, u tc, u td, u te, u tf, u tg] := hr6.out
              have c4 : W6.cell? ⟨vb, 4, none⟩ = some (.int .u32 (un td)) := Row.cell hr 4
              have c0 : W6.cell? ⟨vb, 0, none⟩ = some (.int .u32 (un ta)) := Row.cell hr 0
              have f4 := Row.frozen hr 4
              have f0 := Row.frozen hr 0
              have hr2 := Row.store (Row.store hr 4 (u (td + p))) 0 (u (p + q))
              have hb2 := (hb6.setCell (p := ⟨vb, 4, none⟩) (Nat.le_refl _) (u (td + p))).setCell (p := ⟨vb, 0, none⟩) (Nat.le_refl _) (u (p + q))
              have e : round ⟨ta, tb, tc, td, te, tf, tg, th⟩ K X = ⟨p + q, ta, tb, tc, td + p, te, tf, tg⟩ := by rw [← HPp.out, ← HQ.out]; rfl
              rw [e] at HN
              unfold u at hr2 hb2
              have HR := Lib.hid hr2
              have HB := Lib.hid hb2
              have HE := Lib.hid (add_n td p)
              have HF := Lib.hid (add_n p q)
              clear hr2 hb2 hr hr6 hb6 e HPp HQ hrow hbel
              go_wp2_with fail
              rw [HE.out, HF.out]
              go_roundg (gk - 1)
              case measure => omega
              case rel => exact ⟨k + 1, by go_num, by omega, HB.out, by rw [HN.out]; exact HR.out⟩
            · obtain rfl : k = 64 := by omega
              have hgz := Row.lt hS'.out
              have hzw : w.heap.size < vb := by have := HSC.out.size; have := HV.out; omega
              have hS1 : Row wr g 206 (mixL s (rounds s (sched blk 48) 64) 0) := Row.keep (Row.keep hS'.out (HSC.out.below.block _ hgz)) (hbel.block _ (by omega))
              have hG : w.grownBy wr (some g) := ⟨hbel.os.trans HSC.out.below.os, hbel.tape.trans HSC.out.below.tape, hbel.output.trans HSC.out.below.output, Nat.le_trans HSC.out.below.size hbel.size, fun b hb _ => (hbel.block b (by omega)).trans (HSC.out.below.block b hb)⟩
              have hab : absorb s blk = s.add (rounds s (sched blk 48) 64) := rfl
              generalize rounds s (sched blk 48) 64 = t at *
              have HAB := Lib.hid hab
              clear hab
              have hvg : g ≠ vb := by omega
              clear hbel
              obtain ⟨wp, rfl⟩ : ∃ wp : World, wp = wr := ⟨_, rfl⟩
              go_wp2_with fail
              go_loopg [129] 8 (fun gk i wx => ∃ k : Nat, i = .int .i64 k ∧ k + gk = 8 ∧ Row wx g 206 (mixL s t k) ∧ Row wx vb 206 (t.list.map u) ∧ w.grownBy wx (some g))
              case atStart => exact ⟨0, rfl, rfl, hS1, hrow, hG⟩
              case round =>
                clear hS1 hrow hG
                obtain ⟨k, rfl, hk, hS1, hrow, hG⟩ := hrel
                by_cases hlt : k < 8
                · have cg : wr.cell? ⟨g, k, none⟩ = some (u (s.list.getD k 0)) := (Row.cell hS1 k).trans (mixL_at s t hlt)
                  have cv : wr.cell? ⟨vb, k, none⟩ = some (u (t.list.getD k 0)) := (Row.cell hrow k).trans (by rw [List.getElem?_map, List.getD_eq_getElem?_getD, List.getElem?_eq_getElem (by simpa [St.list] using hlt)]; rfl)
                  have fg := Row.frozen hS1 k
                  have hr2 := Row.store hS1 k (u (s.list.getD k 0 + t.list.getD k 0))
                  rw [mixL_set s t hlt] at hr2
                  have hr3 := Row.other hrow (p := ⟨g, k, none⟩) (Ne.symm hvg) (u (s.list.getD k 0 + t.list.getD k 0))
                  have hg2 := grownBy_trans hG (grownBy_set wr g k (u (s.list.getD k 0 + t.list.getD k 0)))
                  generalize s.list.getD k 0 = A at *
                  generalize t.list.getD k 0 = X at *
                  unfold u at cg cv
                  have HE := add_n A X
                  have HR := Lib.hid (show Row (wr.setCell ⟨g, k, none⟩ (.int .u32 (un (A + X)))).drew g 206 (mixL s t (k + 1)) from hr2)
                  have HT := Lib.hid (show Row (wr.setCell ⟨g, k, none⟩ (.int .u32 (un (A + X)))).drew vb 206 (t.list.map u) from hr3)
                  have HG := Lib.hid (show w.grownBy (wr.setCell ⟨g, k, none⟩ (.int .u32 (un (A + X)))).drew (some g) from ⟨hg2.os, hg2.tape, hg2.output, hg2.size, hg2.block⟩)
                  have HEh := Lib.hid HE
                  clear hr2 hr3 hg2 hS1 hrow hG HE
                  have s9 : (0 : Int) ≤ k := by omega
                  have s10 : (k : Int) < 8 := by omega
                  go_wp2_with fail
                  go_still_tail 11, (by kernel_rfl)
                  change wpList _ _ _ _ _ wr.drew
                  go_wp2_with fail
                  rw [HEh.out]
                  go_roundg (gk - 1)
                  case measure => omega
                  case rel => exact ⟨k + 1, by go_num, by omega, HR.out, HT.out, HG.out⟩
                · obtain rfl : k = 8 := by omega
                  go_wp2_with fail
                  go_end0
                  exact ⟨rfl, by rw [HAB.out]; exact hS1, hG⟩
end Go.Proofs.YthckledagggoiaaGreatDoor

/-! The end of the bytes: what is laid into the last blocks. -/
namespace Go.Proofs.YthckledagggoiaaGreatDoor
open Go.RowKit Fk Sha
theorem run_pad (s : St) (l : List B) : ∀ k, 64 * k ≤ l.length → run s (padL l) k = run s l k
  | 0, _ => rfl
  | k + 1, h => by
    have e : ((padL l).drop (64 * k)).take 64 = (l.drop (64 * k)).take 64 := by
      unfold padL
      rw [List.drop_append_of_le_length (by omega), List.take_append_of_le_length (by simp; omega)]
    show absorb (run s (padL l) k) _ = absorb (run s l k) _
    rw [run_pad s l k (by omega), e]
/-- the bytes behind k blocks, with their end -/
def tailP (l : List B) (k : Nat) : List B := (padL l).drop (64 * k)
theorem tail_eq {l : List B} {k n : Nat} (h : n + 64 * k = l.length) (hn : n < 64) :
    tailP l k = l.drop (64 * k) ++ 0x80#8 :: (List.replicate (if n ≤ 55 then 55 - n else 119 - n) 0#8 ++ be 8 (8 * l.length % 2 ^ 64)) := by
  unfold tailP padL zeros
  rw [List.drop_append_of_le_length (by omega)]
  congr 4
  split <;> omega
theorem tail_length {l : List B} {k n : Nat} (h : n + 64 * k = l.length) (hn : n < 64) : (tailP l k).length = if n ≤ 55 then 64 else 128 := by
  rw [tail_eq h hn]; simp [be_length]; split <;> omega
theorem sum_small {l : List B} {k n : Nat} (h : n + 64 * k = l.length) (hn : n ≤ 55) : sum l = out (absorb (run startS l k) ((tailP l k).take 64)) := by
  have e : (padL l).length / 64 = k + 1 := by
    rw [(padL_blocks l).2, if_pos (by omega)]; omega
  unfold sum
  rw [e]
  show out (absorb (run startS (padL l) k) _) = _
  rw [run_pad _ _ _ (by omega)]; rfl
theorem sum_big {l : List B} {k n : Nat} (h : n + 64 * k = l.length) (hn : 55 < n) (hn2 : n < 64) : sum l = out (absorb (absorb (run startS l k) ((tailP l k).take 64)) (((tailP l k).drop 64).take 64)) := by
  have e : (padL l).length / 64 = k + 2 := by
    rw [(padL_blocks l).2, if_neg (by omega)]; omega
  unfold sum
  rw [e]
  show out (absorb (absorb (run startS (padL l) k) _) _) = _
  rw [run_pad _ _ _ (by omega)]
  congr 2
  unfold tailP
  rw [List.drop_drop]; rfl
theorem putTo_all {n off x : Nat} {vs : List Value} : putTo n off x n vs = vs.take off ++ ((be n x).map bv ++ vs.drop (off + n)) := by
  unfold putTo; simp
theorem endRow {l : List B} {k n : Nat} (h : n + 64 * k = l.length) (hn : n < 64) (L : Nat) (hL : L = if n ≤ 55 then 64 else 128) :
    putTo 8 (L - 8) (8 * l.length % 2 ^ 64) 8 (((l.drop (64 * k)).map bv ++ List.replicate (128 - n) (bv 0#8)).set n (bv 0x80#8)) = (tailP l k).map bv ++ List.replicate (128 - L) (bv 0#8) := by
  have hlen : (l.drop (64 * k)).length = n := by simp; omega
  rw [putTo_all, tail_eq h hn]
  have e0 : ((l.drop (64 * k)).map bv ++ List.replicate (128 - n) (bv 0#8)).set n (bv 0x80#8) = (l.drop (64 * k)).map bv ++ (bv 0x80#8 :: List.replicate (127 - n) (bv 0#8)) := by
    rw [List.set_append_right _ _ (by simp; omega), List.length_map, hlen, Nat.sub_self, show 128 - n = (127 - n) + 1 by omega, List.replicate_succ]; rfl
  rw [e0, List.map_append]
  obtain ⟨cs, hcs⟩ : ∃ cs, (l.drop (64 * k)).map bv = cs := ⟨_, rfl⟩
  have hcl : cs.length = n := by rw [← hcs, List.length_map, hlen]
  rw [hcs]
  have g1 : n ≤ L - 8 := by rw [hL]; split <;> omega
  have g2 : n ≤ L - 8 + 8 := by omega
  rw [List.take_append, List.drop_append, List.take_of_length_le (by omega), List.drop_of_length_le (by omega), hcl, List.append_assoc, List.append_assoc]
  congr 1
  obtain ⟨a, ha⟩ : ∃ a, L - 8 - n = a + 1 := ⟨L - 8 - n - 1, by rw [hL]; split <;> omega⟩
  obtain ⟨b, hb⟩ : ∃ b, L - 8 + 8 - n = b + 1 := ⟨L - 8 + 8 - n - 1, by rw [hL]; split <;> omega⟩
  rw [ha, hb, List.take_succ_cons, List.drop_succ_cons, List.take_replicate, List.drop_replicate]
  have h1 : min a (127 - n) = if n ≤ 55 then 55 - n else 119 - n := by rw [hL] at ha; split at ha <;> (split <;> omega)
  have h2 : 127 - n - b = 128 - L := by
    by_cases h5 : n ≤ 55
    · rw [if_pos h5] at hL; omega
    · rw [if_neg h5] at hL; omega
  rw [h1, h2]
  simp [List.map_replicate]
/-- the hash's words, the first k laid as bytes -/
def outTo (s : St) (k : Nat) : List Value := ((s.list.take k).flatMap fun x => (be 4 x.toNat).map bv) ++ List.replicate (32 - 4 * k) (bv 0#8)
theorem outTo_eight (s : St) : outTo s 8 = (out s).map bv := by
  unfold outTo out
  simp [St.list]
theorem outTo_put (s : St) {k : Nat} (h : k < 8) : putTo 4 (4 * k) (s.list.getD k 0).toNat 4 (outTo s k) = outTo s (k + 1) := by
  have hlen : ∀ t : List W, (t.flatMap fun x => (be 4 x.toNat).map bv).length = 4 * t.length := by
    intro t
    induction t with
    | nil => rfl
    | cons x t ih => rw [List.flatMap_cons, List.length_append, ih]; simp [be_length]; omega
  have hk : (s.list.take k).length = k := by simp [St.list]; omega
  rw [putTo_all]
  unfold outTo
  have e : s.list.take (k + 1) = s.list.take k ++ [s.list.getD k 0] := by
    rw [List.take_succ_eq_append_getElem (by simpa [St.list] using h), List.getD_eq_getElem?_getD, List.getElem?_eq_getElem (by simpa [St.list] using h)]; rfl
  rw [e, List.flatMap_append, List.take_left' (by rw [hlen, hk]), List.drop_append, hlen, hk, List.drop_of_length_le (by rw [hlen, hk]; omega), List.drop_replicate]
  rw [show 32 - 4 * k - (4 * k + 4 - 4 * k) = 32 - 4 * (k + 1) by omega]
  simp
end Go.Proofs.YthckledagggoiaaGreatDoor

namespace Go.Proofs.YthckledagggoiaaGreatDoor
open Go.RowKit Fk Sha
/-! The hash of bytes. -/
/-- a slice value with its capacity -/
def capB (v : Value) : Prop := ∃ (A : Option Addr) (n c : Nat), v = .slice A n c ∧ n ≤ c ∧ c ≤ 9223372036854775807 ∧ (A = none → c = 0)
theorem Tab.eight {w : World} (h : Tab w) : w.cell? ⟨0, 0, none⟩ = some (.int .u32 1779033703) ∧ w.cell? ⟨0, 1, none⟩ = some (.int .u32 3144134277) ∧ w.cell? ⟨0, 2, none⟩ = some (.int .u32 1013904242) ∧ w.cell? ⟨0, 3, none⟩ = some (.int .u32 2773480762) ∧ w.cell? ⟨0, 4, none⟩ = some (.int .u32 1359893119) ∧ w.cell? ⟨0, 5, none⟩ = some (.int .u32 2600822924) ∧ w.cell? ⟨0, 6, none⟩ = some (.int .u32 528734635) ∧ w.cell? ⟨0, 7, none⟩ = some (.int .u32 1541459225) :=
  ⟨h.2 0 (by omega), h.2 1 (by omega), h.2 2 (by omega), h.2 3 (by omega), h.2 4 (by omega), h.2 5 (by omega), h.2 6 (by omega), h.2 7 (by omega)⟩
theorem row_at' {w : World} {n : Nat} (h : w.heap.size = n) (t : TypeId) (vs : List Value) : Row (w.alloc (.cells vs.toArray t)) n t vs := h ▸ Row.new w t vs
/-- what is left of the bytes behind k blocks -/
def RestS (w : World) (l : List B) (k n m : Nat) (A : Option Addr) : Prop := n + 64 * k = l.length ∧ n ≤ m ∧ m ≤ 9223372036854775807 ∧
  (0 < n → ∃ b off, A = some ⟨b, off, none⟩ ∧ b < w.heap.size ∧ ∀ i, i < n → w.cell? ⟨b, off + i, none⟩ = some (bv (l.getD (64 * k + i) default)))
theorem RestS.start {w : World} {l : List B} {A : Option Addr} {c : Nat} (h : SlB w w.heap.size (.slice A l.length c) l) (h1 : l.length ≤ c) (h2 : c ≤ 9223372036854775807) : RestS w l 0 l.length c A := by
  refine ⟨by omega, h1, h2, fun hp => ?_⟩
  obtain ⟨_, A', c', hv, hE⟩ := h
  obtain ⟨b, off, rfl, hb, hE⟩ := hE hp
  cases hv
  refine ⟨b, off, rfl, hb, fun i hi => ?_⟩
  have := hE i hi 0 (by omega)
  rw [Nat.mul_one, Nat.add_zero] at this
  rw [show 64 * 0 + i = i by omega]
  exact this
/-- the hash's own blocks: the result, the state -/
structure Sm (w W : World) (s : St) : Prop where
  below : Below w.heap.size w W
  size : w.heap.size + 2 ≤ W.heap.size
  d : Row W w.heap.size 34 (List.replicate 32 (.int .u8 0))
  s : Row W (w.heap.size + 1) 206 (s.list.map u)
theorem Sm.step {w W W' : World} {s s' : St} (h : Sm w W s) (hg : W.grownBy W' (some (w.heap.size + 1))) (hr : Row W' (w.heap.size + 1) 206 (s'.list.map u)) : Sm w W' s' :=
  ⟨h.below.grown hg (by have := h.size; omega) (fun r e => by cases e; omega), Nat.le_trans h.size hg.size, Row.keep h.d (hg.block _ (by have := h.size; omega) (by simp)), hr⟩
theorem tail_cells {W : World} {e : Nat} {t : TypeId} {T : List B} {r : List Value} (h : Row W e t (T.map bv ++ r)) {o : Nat} (ho : o + 64 ≤ T.length) {i : Nat} (hi : i < 64) :
    W.cell? ⟨e, o + i, none⟩ = some (bv (((T.drop o).take 64).getD i default)) := by
  rw [Row.cell h, List.getElem?_append_left (by rw [List.length_map]; omega), List.getElem?_map, List.getD_eq_getElem?_getD, List.getElem?_take_of_lt hi, List.getElem?_drop, List.getElem?_eq_getElem (by omega)]
  rfl
theorem idx8 (s : St) {k : Nat} (h : k < 8) (w : World) : (Instr.index 206 (.agg #[.int .u32 (un s.a), .int .u32 (un s.b), .int .u32 (un s.c), .int .u32 (un s.d), .int .u32 (un s.e), .int .u32 (un s.f), .int .u32 (un s.g), .int .u32 (un s.h)]) (.int .i64 k)).run Tryz.prog w = .ok (.int .u32 (un (s.list.getD k 0))) w := by
  rcases (show k = 0 ∨ k = 1 ∨ k = 2 ∨ k = 3 ∨ k = 4 ∨ k = 5 ∨ k = 6 ∨ k = 7 by omega) with rfl | rfl | rfl | rfl | rfl | rfl | rfl | rfl <;> kernel_rfl
theorem sl32 (g : Nat) {k : Nat} (h : k < 8) (w : World) : (Instr.sliceAt 34 (.pointer (some ⟨g, 0, none⟩)) (some (.int .i64 (4 * (k : Int)))) (some (.int .i64 (4 * (k : Int) + 4))) none).run Tryz.prog w = .ok (.slice (some ⟨g, 4 * k, none⟩) 4 (32 - 4 * k)) w := by
  rcases (show k = 0 ∨ k = 1 ∨ k = 2 ∨ k = 3 ∨ k = 4 ∨ k = 5 ∨ k = 6 ∨ k = 7 by omega) with rfl | rfl | rfl | rfl | rfl | rfl | rfl | rfl <;> kernel_rfl
theorem outTo_length (s : St) {k : Nat} (h : k ≤ 8) : (outTo s k).length = 32 := by
  rcases (show k = 0 ∨ k = 1 ∨ k = 2 ∨ k = 3 ∨ k = 4 ∨ k = 5 ∨ k = 6 ∨ k = 7 ∨ k = 8 by omega) with rfl | rfl | rfl | rfl | rfl | rfl | rfl | rfl | rfl <;> rfl
theorem copy_rest {W : World} {e : Nat} {t ty : TypeId} {cur : List Value} (hE : Row W e t cur) {A : Option Addr} {n m dl dc : Nat} (hn : n ≤ dl) (hc : n ≤ cur.length) {cs : List Value} (hcs : cs.length = n)
    (hA : 0 < n → ∃ b off, A = some ⟨b, off, none⟩ ∧ ∀ i x, cs[i]? = some x → W.cell? ⟨b, off + i, none⟩ = some x) (h1 : ∀ v ∈ cs, v.oneCell' = true) :
    ∃ W2, (Builtin.copy_ #[155, 155] ty #[.slice (some ⟨e, 0, none⟩) dl dc, .slice A n m]).run Tryz.prog W = .ok (goInt n) W2 ∧ Row W2 e t (cs ++ cur.drop n) ∧ Below e W W2 := by
  by_cases h0 : n = 0
  · subst h0
    obtain rfl : cs = [] := List.eq_nil_of_length_eq_zero hcs
    exact ⟨W, run_copy_none (P := Tryz.prog) W _ _ ty 5 _ _ _ _ _ _ Tryz.underlying155 (by kernel_rfl) (by simp), by simpa using hE, Below.refl _ _⟩
  · obtain ⟨b, off, rfl, hA'⟩ := hA (by omega)
    have hr := run_copy_row (P := Tryz.prog) W 155 155 ty 5 e 0 dl dc ⟨b, off, none⟩ n m cur.toArray t cs Tryz.underlying155 (by kernel_rfl) hE (by rw [hcs]; exact (Nat.min_eq_left hn).symm)
      (fun j v hj => by rw [addr_add0]; exact hA' j v hj) (by simpa [hcs] using hc) h1
    rw [hcs] at hr
    refine ⟨_, hr, ?_, below_setRow (Below.refl _ _) (Nat.le_refl _) _⟩
    have := setRow_heap W e cur.toArray (List.take 0 cur.toArray.toList ++ cs ++ List.drop (0 + n) cur.toArray.toList).toArray t (0, 0) hE
    unfold Row
    simpa using this
set_option maxRecDepth 100000 in
set_option maxHeartbeats 4000000 in
theorem sum_any (l : List B) (v : Value) (w : World) (h : SlB w w.heap.size v l) (hl : l.length ≤ 1099511627776) (hcap : capB v) (hT : Tab w) (hz : 1 < w.heap.size ∧ 0 < w.heap.size) :
    Calls Tryz.prog 143 #[v] w fun e w' => e = .returned (.agg ((sum l).map bv).toArray) ∧ Below w.heap.size w w' := by
  obtain ⟨A, n, c, rfl, hnc, hc, _⟩ := hcap
  have hn : n = l.length := by obtain ⟨_, _, _, hv, _⟩ := h; injection hv
  subst hn
  have HS := Lib.hid h
  have HT := Lib.hid hT
  obtain ⟨g0, g1, g2, g3, g4, g5, g6, g7⟩ := hT.eight
  obtain ⟨hz1, hz2⟩ := hz
  clear h hT
  go_enter Tryz.func143, Tryz.ntmps143
  go_wp2_with fail
  obtain ⟨W0, hW0⟩ : ∃ W0 : World, (w.alloc (.cells (List.replicate 32 (Value.int IntKind.u8 0)).toArray 34)).alloc (.cells (startS.list.map u).toArray 206) = W0 := ⟨_, rfl⟩
  have hSm : Sm w W0 startS := by
    rw [← hW0]
    exact ⟨((Below.refl _ w).alloc (Nat.le_refl _) _).alloc (by simp) _, by simp, Row.alloc (Row.new w _ _) _, row_at' (by simp) _ _⟩
  have hR0 : RestS w l 0 l.length c A := RestS.start HS.out hnc hc
  refine (show _ = W0 from hW0) ▸ ?_
  clear hW0 g0 g1 g2 g3 g4 g5 g6 g7 hnc hc
  go_loopg [5] (l.length / 64) (fun gk x wr => ∃ (k n m : Nat) (A' : Option Addr), x = .slice A' n m ∧ k + gk = l.length / 64 ∧ RestS w l k n m A' ∧ Sm w wr (run startS l k))
  case atStart => exact ⟨0, _, _, _, rfl, by omega, hR0, hSm⟩
  case round =>
    clear hR0 hSm
    obtain ⟨k, n, m, A', rfl, hk, ⟨hn1, hnm, hm, hrest⟩, hSm⟩ := hrel
    by_cases hlt : 64 ≤ n
    · obtain ⟨b, off, rfl, hb, hcell⟩ := hrest (by omega)
      have hz := hSm.size
      have hab := absorb_any (run startS l k) ((l.drop (64 * k)).take 64) (w.heap.size + 1) b off m wr hSm.s (by simp; omega) (by omega) hm (fun i hi => by
        rw [hSm.below.cell (p := ⟨b, off + i, none⟩) hb, hcell i (by omega), List.getD_eq_getElem?_getD, List.getD_eq_getElem?_getD, List.getElem?_take_of_lt hi, List.getElem?_drop]) (by omega)
        (HT.out.keep ⟨hz1, hz2⟩ hSm.below.block) (by omega)
      have hnx : RestS w l (k + 1) (n - 64) (m - 64) (if m = 64 then some ⟨b, off, none⟩ else some ⟨b, off + 64, none⟩) := by
        refine ⟨by omega, by omega, by omega, fun hp => ⟨b, off + 64, by rw [if_neg (by omega)], hb, fun i hi => ?_⟩⟩
        rw [Nat.add_assoc, hcell _ (by omega)]
        congr 3; omega
      have hst : ∀ W', wr.grownBy W' (some (w.heap.size + 1)) → Row W' (w.heap.size + 1) 206 ((absorb (run startS l k) ((l.drop (64 * k)).take 64)).list.map u) → Sm w W' (run startS l (k + 1)) := fun W' h1 h2 => hSm.step h1 h2
      have HAB := Lib.hid hab
      have HNX := Lib.hid hnx
      have HST := Lib.hid hst
      clear hab hnx hst hcell hrest hSm
      by_cases hm64 : m = 64
      · subst hm64
        obtain rfl : n = 64 := by omega
        go_wp2_with (go_at_call 160; (with_reducible refine HAB.out.mono ?_); rintro e w1 ⟨rfl, hr, hg⟩)
        go_roundg (gk - 1)
        case measure => omega
        case rel => exact ⟨k + 1, 0, 0, some ⟨b, off, none⟩, rfl, by omega, by have h2 := HNX.out; rw [if_pos trivial] at h2; exact h2, HST.out _ hg hr⟩
      · go_wp2_with (go_at_call 160; (with_reducible refine HAB.out.mono ?_); rintro e w1 ⟨rfl, hr, hg⟩)
        go_roundg (gk - 1)
        case measure => omega
        case rel => exact ⟨k + 1, n - 64, m - 64, _, by rw [if_neg hm64], by omega, HNX.out, HST.out _ hg hr⟩
    · have hmk : ∀ w, (Instr.makeSlice 155 (.int .i64 64) (.int .i64 128)).run Tryz.prog w = .ok (.slice (some ⟨w.heap.size, 0, none⟩) 64 128) (w.alloc (.cells (List.replicate 128 (Value.int .u8 0)).toArray 5)) := fun _ => by kernel_rfl
      have hn : n < 64 := by omega
      have hz := hSm.size
      have HRS := Lib.hid hrest
      have HSM := Lib.hid hSm
      have HMK := Lib.hid hmk
      clear hrest hSm
      go_upto_region 8 with (fail)
      clear hmk
      obtain ⟨W1, hW1⟩ : ∃ W1 : World, wr.alloc (.cells (List.replicate 128 (Value.int .u8 0)).toArray 5) = W1 := ⟨_, rfl⟩
      refine (show _ = W1 from hW1) ▸ ?_
      obtain ⟨e, he⟩ : ∃ e, wr.heap.size = e := ⟨_, rfl⟩
      have hE : Row W1 e 5 (List.replicate 128 (bv 0#8)) := by rw [← hW1, ← he]; exact Row.new wr _ _
      have hB1 : Below w.heap.size w W1 := by rw [← hW1]; exact HSM.out.below.alloc (by omega) _
      have hD1 : Row W1 w.heap.size 34 (List.replicate 32 (.int .u8 0)) := by rw [← hW1]; exact Row.alloc HSM.out.d _
      have hS1 : Row W1 (w.heap.size + 1) 206 ((run startS l k).list.map u) := by rw [← hW1]; exact Row.alloc HSM.out.s _
      have he2 : w.heap.size + 2 ≤ e := by omega
      rw [he]
      clear hW1 HSM HMK
      have hZ := Row.lt hE
      have hn1' := Lib.hid hn1
      clear hn1 he hz
      obtain ⟨W2, hcp, hE2, hb2⟩ := copy_rest (ty := 3) (m := m) (dc := 128) hE (A := A') (n := n) (dl := 64) (by omega) (by simp; omega) (cs := (l.drop (64 * k)).map bv) (by simp; have := hn1'.out; omega)
        (fun hp => by
          obtain ⟨b, off, rfl, hb, hc⟩ := HRS.out hp
          refine ⟨b, off, rfl, fun i x hx => ?_⟩
          rw [List.getElem?_map, List.getElem?_drop] at hx
          obtain ⟨y, hy, rfl⟩ := Option.map_eq_some_iff.1 hx
          have hi : i < n := by have := (List.getElem?_eq_some_iff.1 hy).1; have := hn1'.out; omega
          rw [hB1.cell (p := ⟨b, off + i, none⟩) hb, hc i hi, List.getD_eq_getElem?_getD, hy]; rfl)
        (fun v hv => by obtain ⟨y, _, rfl⟩ := List.mem_map.1 hv; rfl)
      rw [List.drop_replicate] at hE2
      have hlenE : ((l.drop (64 * k)).map bv ++ List.replicate (128 - n) (bv 0#8)).length = 128 := by simp; have := hn1'.out; omega
      have fE := Row.frozen hE2 n
      obtain ⟨v0, hv0⟩ : ∃ v, W2.cell? ⟨e, n, none⟩ = some v := ⟨_, (Row.cell hE2 n).trans (List.getElem?_eq_getElem (by omega))⟩
      have hE3 := Row.store hE2 n (bv 0x80#8)
      have hS3 : Row (W2.setCell ⟨e, n, none⟩ (bv 0x80#8)) (w.heap.size + 1) 206 ((run startS l k).list.map u) := Row.other (Row.keep hS1 (hb2.block _ (by omega))) (by simp only []; omega) _
      have hD3 : Row (W2.setCell ⟨e, n, none⟩ (bv 0x80#8)) w.heap.size 34 (List.replicate 32 (.int .u8 0)) := Row.other (Row.keep hD1 (hb2.block _ (by omega))) (by simp only []; omega) _
      have hB3 : Below w.heap.size w (W2.setCell ⟨e, n, none⟩ (bv 0x80#8)) := (hB1.trans (hb2.mono (by omega))).setCell (by simp only []; omega) _
      have e128 : bv 0x80#8 = .int .u8 128 := rfl
      rw [e128] at hS3 hD3 hB3
      have hx : 8 * l.length % 2 ^ 64 = l.length * 8 := by rw [Nat.mod_eq_of_lt (by omega)]; omega
      by_cases h55 : n ≤ 55
      · have hend := endRow (k := k) hn1'.out hn 64 (by rw [if_pos h55])
        rw [hx] at hend
        have hput := put_any 8 56 72 (l.length * 8) e 5 _ _ hE3 (by simp; have := hn1'.out; omega) (by omega) (by omega)
        rw [hend, Int.natCast_mul, show ((8 : Nat) : Int) = 8 from rfl, e128] at hput
        have HPUT := Lib.hid hput
        have HS3 := Lib.hid hS3
        have HD3 := Lib.hid hD3
        have HB3 := Lib.hid hB3
        clear hput hend hE3 hS3 hD3 hB3 hE2 hE hS1 hD1 hb2 hlenE hx hB1 e128
        have hl8 : (0 : Int) ≤ (l.length : Int) * 8 := by omega
        go_wp2_with (go_at_call 161; (with_reducible refine HPUT.out.mono ?_); rintro e' W4 ⟨rfl, hE4, hg4⟩)
        have hS4 : Row W4 (w.heap.size + 1) 206 ((run startS l k).list.map u) := Row.keep HS3.out (hg4.block _ (Row.lt HS3.out) (fun h => by injection h; omega))
        have hD4 : Row W4 w.heap.size 34 (List.replicate 32 (.int .u8 0)) := Row.keep HD3.out (hg4.block _ (Row.lt HD3.out) (fun h => by injection h; omega))
        have hB4 : Below w.heap.size w W4 := HB3.out.grown hg4 HB3.out.size (fun r e => by cases e; omega)
        have hTT : Tab W4 := HT.out.keep ⟨hz1, hz2⟩ hB4.block
        clear HPUT HS3 HD3 HB3 hg4 hl8 hv0 fE hcp HRS
        have htl := tail_length hn1'.out hn
        rw [if_pos h55] at htl
        have hab := absorb_any (run startS l k) ((tailP l k).take 64) (w.heap.size + 1) e 0 128 W4 hS4 (by simp; omega) (by omega) (by omega) (fun i hi => by
          have := tail_cells hE4 (o := 0) (by omega) hi; rwa [List.drop_zero] at this) (by have := Row.lt hE4; omega) hTT (by omega)
        have hsum : sum l = out (absorb (run startS l k) ((tailP l k).take 64)) := sum_small hn1'.out h55
        generalize absorb (run startS l k) ((tailP l k).take 64) = σ at *
        have HAB := Lib.hid hab
        have HSUM := Lib.hid hsum
        clear hab hsum hS4 hTT hE4
        refine wp_loop_rounds 2 ?_
        rw [rounds_succ]
        go_wp2_with (go_at_call 160; (with_reducible refine HAB.out.mono ?_); rintro e' W5 ⟨rfl, hS5, hg5⟩)
        have hD5 : Row W5 w.heap.size 34 (List.replicate 32 (.int .u8 0)) := Row.keep hD4 (hg5.block _ (Row.lt hD4) (fun h => by injection h; omega))
        have hB5 : Below w.heap.size w W5 := hB4.grown hg5 hB4.size (fun r e => by cases e; omega)
        clear hD4 hB4 hg5 HAB
        rw [rounds_succ]
        go_upto_region 16 with (fail)
        obtain ⟨c0, c1, c2, c3, c4, c5, c6, c7⟩ := st8 hS5
        clear hS5
        obtain ⟨wp, rfl⟩ : ∃ wp : World, wp = wr := ⟨_, rfl⟩
        go_wp2_with fail
        have hi8 := fun (k : Nat) (h : k < 8) (w : World) => idx8 σ h w
        have HI8 := Lib.hid hi8
        clear hi8 c0 c1 c2 c3 c4 c5 c6 c7
        go_loopg [54] 8 (fun gk i wx => ∃ k : Nat, i = .int .i64 k ∧ k + gk = 8 ∧ Row wx w.heap.size 34 (outTo σ k) ∧ Below w.heap.size w wx)
        case atStart => exact ⟨0, rfl, rfl, hD5, hB5⟩
        case round =>
          clear hD5 hB5
          obtain ⟨j, rfl, hj, hD, hB⟩ := hrel
          by_cases hlt : j < 8
          · have hix := fun w => HI8.out j hlt w
            have hsl := fun w' => sl32 w.heap.size hlt w'
            have hput := put_any 4 (4 * j) (32 - 4 * j) (σ.list.getD j 0).toNat w.heap.size 34 _ wr hD (by rw [outTo_length σ (by omega)]; omega) (by have := (σ.list.getD j 0).isLt; omega) (by omega)
            rw [outTo_put σ hlt] at hput
            have bX := un_bd (σ.list.getD j 0)
            rw [show (((σ.list.getD j 0).toNat : Nat) : Int) = un (σ.list.getD j 0) from rfl] at hput
            generalize un (σ.list.getD j 0) = X at *
            have HPUT := Lib.hid hput
            have HB := Lib.hid hB
            clear hput hD hB
            have s9 : (0 : Int) ≤ j := by omega
            have s10 : (j : Int) < 8 := by omega
            go_wp2_with (go_at_call 161; (with_reducible refine HPUT.out.mono ?_); rintro e' W6 ⟨rfl, hD6, hg6⟩)
            go_roundg (gk - 1)
            case measure => omega
            case rel => exact ⟨j + 1, by go_num, by omega, hD6, HB.out.grown hg6 HB.out.size (fun r e => by cases e; omega)⟩
          · obtain rfl : j = 8 := by omega
            rw [outTo_eight] at hD
            go_upto_region 21 with (fail)
            have hlen := out_length σ
            have hcs : ((out σ).map bv).toArray.size = 32 := by simp [hlen]
            have hinf : (Tryz.prog.info? 34).map (·.size) = some 32 := by kernel_rfl
            refine wp_region_lit ?_
            refine wpList_load_row rfl 34 (.tmp 2) rfl w.heap.size rfl 34 ((out σ).map bv).toArray (0, 0) _ hD Tryz.underlying34 rfl (by rw [hcs]; exact hinf) ?_
            refine wpList_store_row rfl 34 (.tmp 2) (.tmp 68) rfl w.heap.size ((out σ).map bv).toArray rfl rfl 34 ((out σ).map bv).toArray hD (by rw [hcs]; exact hinf) rfl (by simp [Value.oneCell', bv]) ?_
            rw [setRow_self wr _ _ _ _ hD]
            go_wp2_with fail
            exact bodyPost_ret (v := .agg ((out σ).map bv).toArray) (results_cell_row (g := w.heap.size) (t := 34) (fr := (0, 0)) rfl _ wr _ _ rfl hD Tryz.underlying34 rfl (by rw [hcs]; exact hinf)) rfl ⟨by rw [HSUM.out], hB⟩
      · have hend := endRow (k := k) hn1'.out hn 128 (by rw [if_neg h55])
        rw [hx] at hend
        have hput := put_any 8 120 8 (l.length * 8) e 5 _ _ hE3 (by simp; have := hn1'.out; omega) (by omega) (by omega)
        rw [hend, Int.natCast_mul, show ((8 : Nat) : Int) = 8 from rfl, e128] at hput
        have HPUT := Lib.hid hput
        have HS3 := Lib.hid hS3
        have HD3 := Lib.hid hD3
        have HB3 := Lib.hid hB3
        clear hput hend hE3 hS3 hD3 hB3 hE2 hE hS1 hD1 hb2 hlenE hx hB1 e128
        have hl8 : (0 : Int) ≤ (l.length : Int) * 8 := by omega
        go_wp2_with (go_at_call 161; (with_reducible refine HPUT.out.mono ?_); rintro e' W4 ⟨rfl, hE4, hg4⟩)
        have hS4 : Row W4 (w.heap.size + 1) 206 ((run startS l k).list.map u) := Row.keep HS3.out (hg4.block _ (Row.lt HS3.out) (fun h => by injection h; omega))
        have hD4 : Row W4 w.heap.size 34 (List.replicate 32 (.int .u8 0)) := Row.keep HD3.out (hg4.block _ (Row.lt HD3.out) (fun h => by injection h; omega))
        have hB4 : Below w.heap.size w W4 := HB3.out.grown hg4 HB3.out.size (fun r e => by cases e; omega)
        have hTT : Tab W4 := HT.out.keep ⟨hz1, hz2⟩ hB4.block
        clear HPUT HS3 HD3 HB3 hg4 hl8 hv0 fE hcp HRS
        have htl := tail_length hn1'.out hn
        rw [if_neg h55] at htl
        have hab := absorb_any (run startS l k) ((tailP l k).take 64) (w.heap.size + 1) e 0 128 W4 hS4 (by simp; omega) (by omega) (by omega) (fun i hi => by
          have := tail_cells hE4 (o := 0) (by omega) hi; rwa [List.drop_zero] at this) (by have := Row.lt hE4; omega) hTT (by omega)
        have hsum : sum l = out (absorb (absorb (run startS l k) ((tailP l k).take 64)) (((tailP l k).drop 64).take 64)) := sum_big hn1'.out (by omega) hn
        generalize absorb (run startS l k) ((tailP l k).take 64) = τ at *
        have HAB := Lib.hid hab
        have HTT := Lib.hid hTT
        have HE4 := Lib.hid hE4
        clear hab hS4 hTT hE4
        refine wp_loop_rounds 3 ?_
        rw [rounds_succ]
        go_wp2_with (go_at_call 160; (with_reducible refine HAB.out.mono ?_); rintro e' W7 ⟨rfl, hS7, hg7⟩)
        have hD7 : Row W7 w.heap.size 34 (List.replicate 32 (.int .u8 0)) := Row.keep hD4 (hg7.block _ (Row.lt hD4) (fun h => by injection h; omega))
        have hE7 := Row.keep HE4.out (hg7.block _ (Row.lt HE4.out) (fun h => by injection h; omega))
        have hB7 : Below w.heap.size w W7 := hB4.grown hg7 hB4.size (fun r e => by cases e; omega)
        have hTT : Tab W7 := HT.out.keep ⟨hz1, hz2⟩ hB7.block
        have hab2 := absorb_any τ (((tailP l k).drop 64).take 64) (w.heap.size + 1) e 64 64 W7 hS7 (by simp; omega) (by omega) (by omega) (fun i hi => tail_cells hE7 (o := 64) (by omega) hi) (by have := Row.lt hE7; omega) hTT (by omega)
        generalize absorb τ (((tailP l k).drop 64).take 64) = σ at *
        have HAB2 := Lib.hid hab2
        have HSUM := Lib.hid hsum
        clear hab2 hsum hS7 hTT hE7 hD4 hB4 hg7 HAB HTT HE4
        rw [rounds_succ]
        go_wp2_with (go_at_call 160; (with_reducible refine HAB2.out.mono ?_); rintro e' W5 ⟨rfl, hS5, hg5⟩)
        have hD5 : Row W5 w.heap.size 34 (List.replicate 32 (.int .u8 0)) := Row.keep hD7 (hg5.block _ (Row.lt hD7) (fun h => by injection h; omega))
        have hB5 : Below w.heap.size w W5 := hB7.grown hg5 hB7.size (fun r e => by cases e; omega)
        clear hD7 hB7 hg5 HAB2
        rw [rounds_succ]
        go_upto_region 16 with (fail)
        obtain ⟨c0, c1, c2, c3, c4, c5, c6, c7⟩ := st8 hS5
        clear hS5
        obtain ⟨wp, rfl⟩ : ∃ wp : World, wp = wr := ⟨_, rfl⟩
        go_wp2_with fail
        have hi8 := fun (k : Nat) (h : k < 8) (w : World) => idx8 σ h w
        have HI8 := Lib.hid hi8
        clear hi8 c0 c1 c2 c3 c4 c5 c6 c7
        go_loopg [54] 8 (fun gk i wx => ∃ k : Nat, i = .int .i64 k ∧ k + gk = 8 ∧ Row wx w.heap.size 34 (outTo σ k) ∧ Below w.heap.size w wx)
        case atStart => exact ⟨0, rfl, rfl, hD5, hB5⟩
        case round =>
          clear hD5 hB5
          obtain ⟨j, rfl, hj, hD, hB⟩ := hrel
          by_cases hlt : j < 8
          · have hix := fun w => HI8.out j hlt w
            have hsl := fun w' => sl32 w.heap.size hlt w'
            have hput := put_any 4 (4 * j) (32 - 4 * j) (σ.list.getD j 0).toNat w.heap.size 34 _ wr hD (by rw [outTo_length σ (by omega)]; omega) (by have := (σ.list.getD j 0).isLt; omega) (by omega)
            rw [outTo_put σ hlt] at hput
            have bX := un_bd (σ.list.getD j 0)
            rw [show (((σ.list.getD j 0).toNat : Nat) : Int) = un (σ.list.getD j 0) from rfl] at hput
            generalize un (σ.list.getD j 0) = X at *
            have HPUT := Lib.hid hput
            have HB := Lib.hid hB
            clear hput hD hB
            have s9 : (0 : Int) ≤ j := by omega
            have s10 : (j : Int) < 8 := by omega
            go_wp2_with (go_at_call 161; (with_reducible refine HPUT.out.mono ?_); rintro e' W6 ⟨rfl, hD6, hg6⟩)
            go_roundg (gk - 1)
            case measure => omega
            case rel => exact ⟨j + 1, by go_num, by omega, hD6, HB.out.grown hg6 HB.out.size (fun r e => by cases e; omega)⟩
          · obtain rfl : j = 8 := by omega
            rw [outTo_eight] at hD
            go_upto_region 21 with (fail)
            have hlen := out_length σ
            have hcs : ((out σ).map bv).toArray.size = 32 := by simp [hlen]
            have hinf : (Tryz.prog.info? 34).map (·.size) = some 32 := by kernel_rfl
            refine wp_region_lit ?_
            refine wpList_load_row rfl 34 (.tmp 2) rfl w.heap.size rfl 34 ((out σ).map bv).toArray (0, 0) _ hD Tryz.underlying34 rfl (by rw [hcs]; exact hinf) ?_
            refine wpList_store_row rfl 34 (.tmp 2) (.tmp 68) rfl w.heap.size ((out σ).map bv).toArray rfl rfl 34 ((out σ).map bv).toArray hD (by rw [hcs]; exact hinf) rfl (by simp [Value.oneCell', bv]) ?_
            rw [setRow_self wr _ _ _ _ hD]
            go_wp2_with fail
            exact bodyPost_ret (v := .agg ((out σ).map bv).toArray) (results_cell_row (g := w.heap.size) (t := 34) (fr := (0, 0)) rfl _ wr _ _ rfl hD Tryz.underlying34 rfl (by rw [hcs]; exact hinf)) rfl ⟨by rw [HSUM.out], hB⟩
end Go.Proofs.YthckledagggoiaaGreatDoor
