import Derived.Test.YtlbnbginippjfaaAlg
import GoSem.ClaimData
/-! Letters in plain words: a cipher is two numbers, a letter three ciphers. -/
namespace Fk
open Go
structure Ci where
  a : Int
  b : Int
structure Se where
  x : Ci
  y : Ci
  z : Ci
structure Tr where
  p : Int
  q : Int
  r : Int
instance : Inhabited Ci := ⟨⟨0, 0⟩⟩
instance : Inhabited Se := ⟨⟨default, default, default⟩⟩
instance : Inhabited Tr := ⟨⟨0, 0, 0⟩⟩
def Ci.val (c : Ci) : Value := .agg #[.int .i64 c.a, .int .i64 c.b]
def Se.val (s : Se) : Value := .agg #[.int .i64 s.x.a, .int .i64 s.x.b, .int .i64 s.y.a, .int .i64 s.y.b, .int .i64 s.z.a, .int .i64 s.z.b]
def Tr.val (t : Tr) : Value := .agg #[.int .i64 t.p, .int .i64 t.q, .int .i64 t.r]
def Se.cells (s : Se) : List Value := [.int .i64 s.x.a, .int .i64 s.x.b, .int .i64 s.y.a, .int .i64 s.y.b, .int .i64 s.z.a, .int .i64 s.z.b]
def Tr.cells (t : Tr) : List Value := [.int .i64 t.p, .int .i64 t.q, .int .i64 t.r]
def Se.get (s : Se) (i : Nat) : Ci := if i = 0 then s.x else if i = 1 then s.y else s.z
def Tr.get (t : Tr) (i : Nat) : Int := if i = 0 then t.p else if i = 1 then t.q else t.r
def Se.map (f : Nat → Ci → Ci) (s : Se) : Se := ⟨f 0 s.x, f 1 s.y, f 2 s.z⟩
/-- the first k ciphers changed -/
def Se.mapTo (f : Nat → Ci → Ci) (s : Se) (k : Nat) : Se := ⟨if 0 < k then f 0 s.x else s.x, if 1 < k then f 1 s.y else s.y, if 2 < k then f 2 s.z else s.z⟩
def Tr.map (f : Int → Int) (t : Tr) : Tr := ⟨f t.p, f t.q, f t.r⟩
theorem Se.mapTo_zero (f : Nat → Ci → Ci) (s : Se) : s.mapTo f 0 = s := rfl
theorem Se.mapTo_three (f : Nat → Ci → Ci) (s : Se) : s.mapTo f 3 = s.map f := rfl

/-! ### in form -/
def okC (c : Ci) : Bool := vld c.a && vld c.b
def okS (s : Se) : Bool := okC s.x && (okC s.y && okC s.z)
def chS (s : Se) : Int := if okS s then 0 else 100
theorem okC_iff {c : Ci} : okC c = true ↔ vld c.a = true ∧ vld c.b = true := by simp [okC]
theorem okS_iff {s : Se} : okS s = true ↔ okC s.x = true ∧ okC s.y = true ∧ okC s.z = true := by simp [okS]
theorem okS_get {s : Se} (h : okS s = true) (i : Nat) : okC (s.get i) = true := by
  obtain ⟨h1, h2, h3⟩ := okS_iff.1 h
  unfold Se.get; split
  · exact h1
  · split <;> assumption

/-! ### secrets, keys -/
def secB (n : Int) : Bool := decide (1 ≤ n) && decide (n < 1073741789)
def pubC (n : Int) : Int := if secB n then powC 4 n else 0
def pubE (n : Int) : Int := if secB n then 0 else 110
theorem vld_4' : vld 4 = true := vld_4
theorem pubE_0 {n : Int} (h : secB n = true) : pubE n = 0 := by simp [pubE, h]
theorem powE_4 : powE 4 = 0 := by simp [powE, vld_4]
/-- what is put together of the first keys, as long as all are elements -/
def joinTo (l : List Int) : Option Int := l.foldl (fun o k => match o with
  | some c => if vld c && vld k then some (c * k % 2147483579) else none
  | none => none) (some 1)
def joinC (l : List Int) : Int := (joinTo l).getD 0
def joinE (l : List Int) : Int := if (joinTo l).isSome then 0 else 90
theorem joinTo_snoc (l : List Int) (k : Int) : joinTo (l ++ [k]) = match joinTo l with
  | some c => if vld c && vld k then some (c * k % 2147483579) else none
  | none => none := by
  unfold joinTo; rw [List.foldl_append]; rfl
theorem fold_none : ∀ (l : List Int), l.foldl (fun (o : Option Int) k => match o with
  | some c => if vld c && vld k then some (c * k % 2147483579) else none
  | none => none) none = none
  | [] => rfl
  | _ :: l => fold_none l
theorem joinTo_none {l r : List Int} (h : joinTo l = none) : joinTo (l ++ r) = none := by
  unfold joinTo at *; rw [List.foldl_append, h]; exact fold_none r

/-! ### sealing -/
def moreC (key : Int) (r : Tr) (i : Nat) (c : Ci) : Ci := ⟨c.a * powC 4 (r.get i) % 2147483579, c.b * powC key (r.get i) % 2147483579⟩
def stripC (n : Int) (_ : Nat) (c : Ci) : Ci := ⟨c.a, c.b * powC c.a (-n) % 2147483579⟩
def wOK (w : Tr) : Bool := elE w.p == 0 && (elE w.q == 0 && elE w.r == 0)
def seal0 (w : Tr) : Se := ⟨⟨1, elC w.p⟩, ⟨1, elC w.q⟩, ⟨1, elC w.r⟩⟩
def sealC (key : Int) (w r : Tr) : Se := if vld key && wOK w then (seal0 w).map (moreC key r) else default
def sealE (key : Int) (w : Tr) : Int := if vld key then (if wOK w then 0 else 100) else 90
def againC (key : Int) (s : Se) (r : Tr) : Se := if vld key && okS s then s.map (moreC key r) else default
def againE (key : Int) (s : Se) : Int := if vld key then chS s else 90
def strpC (n : Int) (s : Se) : Se := if secB n && okS s then s.map (stripC n) else default
def strpE (n : Int) (s : Se) : Int := if secB n then chS s else 110
def readC (s : Se) : Tr := if okS s then ⟨numC s.x.b, numC s.y.b, numC s.z.b⟩ else default
theorem elE_iff {n : Int} : (elE n == 0) = true ↔ 1 ≤ n ∧ n ≤ 1073741789 := by
  unfold elE; split <;> simp <;> omega
end Fk
