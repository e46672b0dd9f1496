import GoSem.ClaimData
import Derived.Laws.IdiomStrings
import Derived.Deep.Cut
import Derived.Deep.MidRow
import Derived.StillTailTactics
import Derived.Great.BuildSlice
import Derived.Test.YthboebhghaabnaaGreatDoorChecked
import Derived.WalkKit
import Derived.WalkSpells
import Derived.WalkLawsBesides
import Derived.Outline
import Derived.Deep.QuietTactic
import Derived.BigQuiet
import Derived.Lib.Hide
import Derived.Deep.LoopGhost
import Derived.RangeFuncNested
import Derived.RangeFuncLeaves
import Derived.Deep.Draws
import Derived.RangeFuncBound
import Derived.RangeFuncCalls
import Derived.Shelf.Abstract
import Derived.Shelf.RegionOpen
import Derived.OwnWalkIn
import Derived.TacticsInMore
import Derived.LoopNIn
import Derived.LoopIn
import Derived.Deep.RegionHeld3
import Derived.Test.YthboebhghaabnaaGreatDoorPzc
/-! The elements are a commutative group of the order Q. -/
namespace Fk

attribute [local irreducible] qq

theorem vld_iff {x : Int} : vld x = true ↔ 1 ≤ x ∧ x < 2147483579 ∧ x.toNat ^ qq % 2147483579 = 1 := by
  constructor
  · intro h
    have h1 := vld_lo h
    have h2 := vld_hi h
    rw [vld_pow h1 h2] at h
    refine ⟨h1, h2, ?_⟩
    unfold pwr at h
    rw [show (1073741789 : Int).toNat = qq from qq_eq.symm] at h
    have := beq_iff_eq.1 h
    omega
  · rintro ⟨h1, h2, h3⟩
    rw [vld_pow h1 h2]
    unfold pwr
    rw [show (1073741789 : Int).toNat = qq from qq_eq.symm, h3]
    rfl

theorem vld_nat {A : Nat} (h3 : A ^ qq % 2147483579 = 1) (h2 : A < 2147483579) : vld (A : Int) = true := by
  refine vld_iff.2 ⟨?_, by omega, by simpa using h3⟩
  rcases Nat.eq_zero_or_pos A with h | h
  · subst h
    rw [Nat.zero_pow (by rw [qq_eq]; omega)] at h3
    omega
  · omega
theorem nat_vld {a : Int} (h : vld a = true) : ∃ A : Nat, a = (A : Int) ∧ 1 ≤ A ∧ A < 2147483579 ∧ A ^ qq % 2147483579 = 1 := by
  obtain ⟨h1, h2, h3⟩ := vld_iff.1 h
  exact ⟨a.toNat, by omega, by omega, by omega, h3⟩

/-- exponents count modulo Q -/
theorem pow_red {A : Nat} (h : A ^ qq % 2147483579 = 1) (m : Nat) : A ^ m % 2147483579 = A ^ (m % 1073741789) % 2147483579 := by
  conv => lhs; rw [← Nat.div_add_mod m 1073741789, ← qq_eq, Nat.pow_add, Nat.pow_mul, Nat.mul_mod, Nat.pow_mod, h, Nat.one_pow]
  rw [← Nat.mul_mod, Nat.one_mul, qq_eq]
theorem mul_vld_nat {A B : Nat} (ha : A ^ qq % 2147483579 = 1) (hb : B ^ qq % 2147483579 = 1) : (A * B % 2147483579) ^ qq % 2147483579 = 1 := by
  rw [← Nat.pow_mod, Nat.mul_pow, Nat.mul_mod, ha, hb]
theorem pow_vld_nat {A : Nat} (ha : A ^ qq % 2147483579 = 1) (m : Nat) : (A ^ m % 2147483579) ^ qq % 2147483579 = 1 := by
  rw [← Nat.pow_mod, Nat.pow_right_comm, Nat.pow_mod, ha, Nat.one_pow]

theorem mulC_nat {A B : Nat} (ha : vld (A : Int) = true) (hb : vld (B : Int) = true) : mulC A B = ((A * B % 2147483579 : Nat) : Int) := by
  simp [mulC, ha, hb]
theorem powC_nat {A : Nat} (ha : vld (A : Int) = true) (n : Int) : powC A n = ((A ^ (n % 1073741789).toNat % 2147483579 : Nat) : Int) := by
  rw [powC, if_pos ha, pwr]; rfl

theorem vld_mul {a b : Int} (ha : vld a = true) (hb : vld b = true) : vld (mulC a b) = true := by
  obtain ⟨A, rfl, _, _, hA⟩ := nat_vld ha
  obtain ⟨B, rfl, _, _, hB⟩ := nat_vld hb
  rw [mulC_nat ha hb]
  exact vld_nat (mul_vld_nat hA hB) (Nat.mod_lt _ (by omega))
theorem vld_powC {a : Int} (ha : vld a = true) (n : Int) : vld (powC a n) = true := by
  obtain ⟨A, rfl, _, _, hA⟩ := nat_vld ha
  rw [powC_nat ha]
  exact vld_nat (pow_vld_nat hA _) (Nat.mod_lt _ (by omega))
theorem mul_comm' {a b : Int} (ha : vld a = true) (hb : vld b = true) : mulC a b = mulC b a := by
  obtain ⟨A, rfl, _, _, hA⟩ := nat_vld ha
  obtain ⟨B, rfl, _, _, hB⟩ := nat_vld hb
  rw [mulC_nat ha hb, mulC_nat hb ha, Nat.mul_comm]
theorem mul_assoc' {a b c : Int} (ha : vld a = true) (hb : vld b = true) (hc : vld c = true) : mulC (mulC a b) c = mulC a (mulC b c) := by
  have hab := vld_mul ha hb
  have hbc := vld_mul hb hc
  obtain ⟨A, rfl, _, _, hA⟩ := nat_vld ha
  obtain ⟨B, rfl, _, _, hB⟩ := nat_vld hb
  obtain ⟨C, rfl, _, _, hC⟩ := nat_vld hc
  rw [mulC_nat ha hb] at hab ⊢
  rw [mulC_nat hb hc] at hbc ⊢
  rw [mulC_nat hab hc, mulC_nat ha hbc]
  congr 1
  rw [Nat.mod_mul_mod, Nat.mul_mod_mod, Nat.mul_assoc]
theorem mul_one' {a : Int} (ha : vld a = true) : mulC a 1 = a := by
  have h1 := vld_lo ha
  have h2 := vld_hi ha
  simp only [mulC, ha, vld_1, Bool.and_self, if_true, Int.mul_one]
  exact Int.emod_eq_of_lt (by omega) (by omega)
theorem one_mul' {a : Int} (ha : vld a = true) : mulC 1 a = a := by rw [mul_comm' vld_1 ha, mul_one' ha]

/-! ### powers -/
theorem toNat_emod (n : Int) : ((n % 1073741789).toNat : Int) = n % 1073741789 := Int.toNat_of_nonneg (by omega)
/-- a power, for any representative of the exponent -/
theorem powC_of {A : Nat} (ha : vld (A : Int) = true) (hA : A ^ qq % 2147483579 = 1) {n : Int} {m : Nat} (h : (m : Int) % 1073741789 = n % 1073741789) : powC A n = ((A ^ m % 2147483579 : Nat) : Int) := by
  rw [powC_nat ha, pow_red hA m]
  have : (n % 1073741789).toNat = m % 1073741789 := by omega
  rw [this]
theorem pow_add' {a : Int} (ha : vld a = true) (i k : Int) : mulC (powC a i) (powC a k) = powC a (i + k) := by
  have h1 := vld_powC ha i
  have h2 := vld_powC ha k
  obtain ⟨A, rfl, _, _, hA⟩ := nat_vld ha
  rw [powC_of ha hA (n := i + k) (m := (i % 1073741789).toNat + (k % 1073741789).toNat) (by omega)]
  rw [powC_nat ha i] at h1 ⊢
  rw [powC_nat ha k] at h2 ⊢
  rw [mulC_nat h1 h2]
  congr 1
  rw [Nat.pow_add, ← Nat.mul_mod]
theorem pow_mul' {a : Int} (ha : vld a = true) (i k : Int) : powC (powC a i) k = powC a (i * k) := by
  have h1 := vld_powC ha i
  obtain ⟨A, rfl, _, _, hA⟩ := nat_vld ha
  rw [powC_of ha hA (n := i * k) (m := (i % 1073741789).toNat * (k % 1073741789).toNat)
    (by rw [Int.natCast_mul, toNat_emod, toNat_emod, ← Int.mul_emod])]
  rw [powC_nat ha i] at h1 ⊢
  rw [powC_nat h1]
  congr 1
  rw [← Nat.pow_mod, Nat.pow_mul]
theorem mul_pow' {a b : Int} (ha : vld a = true) (hb : vld b = true) (i : Int) : powC (mulC a b) i = mulC (powC a i) (powC b i) := by
  have h1 := vld_powC ha i
  have h2 := vld_powC hb i
  have h3 := vld_mul ha hb
  obtain ⟨A, rfl, _, _, hA⟩ := nat_vld ha
  obtain ⟨B, rfl, _, _, hB⟩ := nat_vld hb
  rw [mulC_nat ha hb] at h3 ⊢
  rw [powC_nat ha i] at h1 ⊢
  rw [powC_nat hb i] at h2 ⊢
  rw [mulC_nat h1 h2, powC_nat h3]
  congr 1
  rw [← Nat.pow_mod, Nat.mul_pow, Nat.mul_mod]
theorem pow_0 {a : Int} (ha : vld a = true) : powC a 0 = 1 := by
  obtain ⟨A, rfl, _, _, hA⟩ := nat_vld ha
  rw [powC_nat ha]; rfl
theorem pow_1 {a : Int} (ha : vld a = true) : powC a 1 = a := by
  obtain ⟨A, rfl, _, h, hA⟩ := nat_vld ha
  rw [powC_nat ha, show ((1 : Int) % 1073741789).toNat = 1 from rfl, Nat.pow_one, Nat.mod_eq_of_lt h]
theorem pow_congr' {a : Int} {i k : Int} (h : i % 1073741789 = k % 1073741789) : powC a i = powC a k := by
  unfold powC; rw [h]
theorem pow_2 {a : Int} (ha : vld a = true) : powC a 2 = mulC a a := by
  have := pow_add' ha 1 1
  rw [pow_1 ha] at this
  exact this.symm
theorem pow_Q {a : Int} (ha : vld a = true) : powC a 1073741789 = 1 := by
  rw [pow_congr' (k := 0) (by omega), pow_0 ha]
theorem mul_inv' {a : Int} (ha : vld a = true) : mulC a (powC a (-1)) = 1 := by
  have := pow_add' ha 1 (-1)
  rw [pow_1 ha] at this
  rw [this]; exact pow_0 ha
theorem mul_mul_inv {a b : Int} (ha : vld a = true) (hb : vld b = true) : mulC (mulC a b) (powC b (-1)) = a := by
  rw [mul_assoc' ha hb (vld_powC hb _), mul_inv' hb, mul_one' ha]

/-! ### of x and P - x exactly one is an element -/
theorem neg_pow_odd (a : Int) : ∀ m : Nat, (-a) ^ (2 * m + 1) = -(a ^ (2 * m + 1))
  | 0 => by rw [show 2 * 0 + 1 = 1 from rfl, Int.pow_succ, Int.pow_succ, Int.pow_zero, Int.pow_zero, Int.one_mul, Int.one_mul]
  | m + 1 => by
    have ih := neg_pow_odd a m
    have e : 2 * (m + 1) + 1 = (2 * m + 1) + 1 + 1 := by omega
    rw [e, Int.pow_succ, Int.pow_succ, Int.pow_succ a (2 * m + 1 + 1), Int.pow_succ a (2 * m + 1), ih]
    simp [Int.neg_mul, Int.mul_neg]
theorem euler_P {A : Nat} (h1 : 1 ≤ A) (h2 : A < 2147483579) : A ^ qq % 2147483579 = 1 ∨ A ^ qq % 2147483579 = 2147483578 := by
  have h := euler (p := 2147483579) (a := A) isP_P (by omega) (by rw [Nat.mod_eq_of_lt h2]; omega)
  rw [show (2147483579 : Nat) / 2 = qq from by rw [qq_eq]] at h
  rw [h]
  cases jac A 2147483579
  · right; rfl
  · left; rfl
theorem opp_pow {A : Nat} (h2 : A < 2147483579) : (A ^ qq % 2147483579 + (2147483579 - A) ^ qq % 2147483579) % 2147483579 = 0 := by
  have e : ((2147483579 - A : Nat) : Int) = 2147483579 + -(A : Int) := by omega
  have h1 : (((2147483579 - A) ^ qq : Nat) : Int) % 2147483579 = (-((A ^ qq : Nat) : Int)) % 2147483579 := by
    have ho := neg_pow_odd (A : Int) 536870894
    rw [show 2 * 536870894 + 1 = qq from qq_eq.symm] at ho
    rw [Int.natCast_pow, Int.natCast_pow, ← ho]
    have hc := Z_congr (p := 2147483579) (f := fun _ => ((2147483579 - A : Nat) : Int)) (g := fun _ => -(A : Int)) qq (fun _ _ => by rw [e, Int.add_emod_left])
    rw [Z_const, Z_const] at hc
    exact hc
  generalize A ^ qq = X at *
  generalize (2147483579 - A) ^ qq = Y at *
  omega
theorem vld_opp {x : Int} (h1 : 1 ≤ x) (h2 : x < 2147483579) : vld (2147483579 - x) = !vld x := by
  obtain ⟨A, rfl⟩ : ∃ A : Nat, x = (A : Int) := ⟨x.toNat, by omega⟩
  have e : (2147483579 - (A : Int)) = ((2147483579 - A : Nat) : Int) := by omega
  have h3 := opp_pow (A := A) (by omega)
  have h4 := euler_P (A := A) (by omega) (by omega)
  have h5 := euler_P (A := 2147483579 - A) (by omega) (by omega)
  rcases h4 with h4 | h4
  · have hv : vld (A : Int) = true := vld_nat h4 (by omega)
    rw [hv, e]
    by_cases hc : vld ((2147483579 - A : Nat) : Int) = true
    · obtain ⟨_, _, hc3⟩ := vld_iff.1 hc
      rw [Int.toNat_natCast] at hc3
      omega
    · simpa using hc
  · have hv : vld (A : Int) = false := by
      by_cases hc : vld (A : Int) = true
      · obtain ⟨_, _, hc3⟩ := vld_iff.1 hc
        rw [Int.toNat_natCast] at hc3
        omega
      · simpa using hc
    rw [hv, e]
    refine vld_nat ?_ (by omega)
    omega
theorem vld_sq {x : Int} (h1 : 1 ≤ x) (h2 : x < 2147483579) : vld (x * x % 2147483579) = true := by
  obtain ⟨A, rfl⟩ : ∃ A : Nat, x = (A : Int) := ⟨x.toNat, by omega⟩
  have e : ((A : Int) * A % 2147483579) = ((A * A % 2147483579 : Nat) : Int) := by simp
  rw [e]
  refine vld_nat ?_ (Nat.mod_lt _ (by omega))
  rw [← Nat.pow_mod, Nat.mul_pow, Nat.mul_mod]
  rcases euler_P (A := A) (by omega) (by omega) with h | h <;> rw [h]
theorem pow_root {x : Int} (hx : vld x = true) : powC (powC x 536870895) 2 = x := by
  rw [pow_mul' hx, pow_congr' (k := 1) (by omega), pow_1 hx]

/-! ### numbers and elements -/
theorem vld_el {n : Int} (h1 : 1 ≤ n) (h2 : n ≤ 1073741789) : vld (elC n) = true := by
  unfold elC
  rw [if_pos ⟨h1, h2⟩]
  by_cases h : vld n = true
  · rw [if_pos h]; exact h
  · rw [if_neg h, vld_opp h1 (by omega)]; simpa using h
theorem num_el {n : Int} (h1 : 1 ≤ n) (h2 : n ≤ 1073741789) : numC (elC n) = n := by
  have hv := vld_el h1 h2
  unfold numC
  rw [if_pos hv]
  have e : elC n = if vld n then n else 2147483579 - n := by unfold elC; exact if_pos ⟨h1, h2⟩
  rw [e]
  by_cases h : vld n = true
  · simp only [h, if_true]; rw [if_pos h2]
  · simp only [h, Bool.false_eq_true, if_false]; rw [if_neg (by omega)]; omega
theorem el_num {x : Int} (hv : vld x = true) : elC (numC x) = x ∧ 1 ≤ numC x ∧ numC x ≤ 1073741789 := by
  have h1 := vld_lo hv
  have h2 := vld_hi hv
  unfold numC
  rw [if_pos hv]
  by_cases h : x ≤ 1073741789
  · rw [if_pos h]
    unfold elC
    rw [if_pos ⟨h1, h⟩, if_pos hv]
    exact ⟨rfl, h1, h⟩
  · rw [if_neg h]
    have h3 : vld (2147483579 - x) = false := by rw [vld_opp h1 h2, hv]; rfl
    unfold elC
    rw [if_pos (by omega), if_neg (by simp [h3])]
    omega
theorem el_inj {n m : Int} (h1 : 1 ≤ n) (h2 : n ≤ 1073741789) (h3 : 1 ≤ m) (h4 : m ≤ 1073741789) (h : elC n = elC m) : n = m := by
  rw [← num_el h1 h2, ← num_el h3 h4, h]
/-- a product of two numbers of 32 bits -/
theorem prod_bounds {m n : Int} (h1 : -2147483648 ≤ m) (h2 : m ≤ 2147483647) (h3 : -2147483648 ≤ n) (h4 : n ≤ 2147483647) : -4611686018427387904 ≤ m * n ∧ m * n ≤ 4611686018427387904 := by
  have a1 : m.natAbs * n.natAbs ≤ 2147483648 * 2147483648 := Nat.mul_le_mul (by omega) (by omega)
  rw [← Int.natAbs_mul] at a1
  omega
theorem sq_boundsI {x : Int} (h1 : 1 ≤ x) (h2 : x < 2147483579) : 0 ≤ x * x ∧ x * x ≤ 4611686018427387904 := by
  have a1 : x.natAbs * x.natAbs ≤ 2147483579 * 2147483579 := Nat.mul_le_mul (by omega) (by omega)
  have a2 : 0 ≤ x * x := Int.mul_nonneg (by omega) (by omega)
  rw [← Int.natAbs_mul] at a1
  omega
end Fk

/-! Letters in plain words: a cipher is two numbers, a letter three ciphers. -/
namespace Fk
open Go
structure Ci where
  a : Int
  b : Int
structure Se where
  x : Ci
  y : Ci
  z : Ci
structure Tr where
  p : Int
  q : Int
  r : Int
instance : Inhabited Ci := ⟨⟨0, 0⟩⟩
instance : Inhabited Se := ⟨⟨default, default, default⟩⟩
instance : Inhabited Tr := ⟨⟨0, 0, 0⟩⟩
def Ci.val (c : Ci) : Value := .agg #[.int .i64 c.a, .int .i64 c.b]
def Se.val (s : Se) : Value := .agg #[.int .i64 s.x.a, .int .i64 s.x.b, .int .i64 s.y.a, .int .i64 s.y.b, .int .i64 s.z.a, .int .i64 s.z.b]
def Tr.val (t : Tr) : Value := .agg #[.int .i64 t.p, .int .i64 t.q, .int .i64 t.r]
def Se.cells (s : Se) : List Value := [.int .i64 s.x.a, .int .i64 s.x.b, .int .i64 s.y.a, .int .i64 s.y.b, .int .i64 s.z.a, .int .i64 s.z.b]
def Tr.cells (t : Tr) : List Value := [.int .i64 t.p, .int .i64 t.q, .int .i64 t.r]
def Se.get (s : Se) (i : Nat) : Ci := if i = 0 then s.x else if i = 1 then s.y else s.z
def Tr.get (t : Tr) (i : Nat) : Int := if i = 0 then t.p else if i = 1 then t.q else t.r
def Se.map (f : Nat → Ci → Ci) (s : Se) : Se := ⟨f 0 s.x, f 1 s.y, f 2 s.z⟩
/-- the first k ciphers changed -/
def Se.mapTo (f : Nat → Ci → Ci) (s : Se) (k : Nat) : Se := ⟨if 0 < k then f 0 s.x else s.x, if 1 < k then f 1 s.y else s.y, if 2 < k then f 2 s.z else s.z⟩
def Tr.map (f : Int → Int) (t : Tr) : Tr := ⟨f t.p, f t.q, f t.r⟩
theorem Se.mapTo_zero (f : Nat → Ci → Ci) (s : Se) : s.mapTo f 0 = s := rfl
theorem Se.mapTo_three (f : Nat → Ci → Ci) (s : Se) : s.mapTo f 3 = s.map f := rfl

/-! ### in form -/
def okC (c : Ci) : Bool := vld c.a && vld c.b
def okS (s : Se) : Bool := okC s.x && (okC s.y && okC s.z)
def chS (s : Se) : Int := if okS s then 0 else 100
theorem okC_iff {c : Ci} : okC c = true ↔ vld c.a = true ∧ vld c.b = true := by simp [okC]
theorem okS_iff {s : Se} : okS s = true ↔ okC s.x = true ∧ okC s.y = true ∧ okC s.z = true := by simp [okS]
theorem okS_get {s : Se} (h : okS s = true) (i : Nat) : okC (s.get i) = true := by
  obtain ⟨h1, h2, h3⟩ := okS_iff.1 h
  unfold Se.get; split
  · exact h1
  · split <;> assumption

/-! ### secrets, keys -/
def secB (n : Int) : Bool := decide (1 ≤ n) && decide (n < 1073741789)
def pubC (n : Int) : Int := if secB n then powC 4 n else 0
def pubE (n : Int) : Int := if secB n then 0 else 110
theorem vld_4' : vld 4 = true := vld_4
theorem pubE_0 {n : Int} (h : secB n = true) : pubE n = 0 := by simp [pubE, h]
theorem powE_4 : powE 4 = 0 := by simp [powE, vld_4]
/-- what is put together of the first keys, as long as all are elements -/
def joinTo (l : List Int) : Option Int := l.foldl (fun o k => match o with
  | some c => if vld c && vld k then some (c * k % 2147483579) else none
  | none => none) (some 1)
def joinC (l : List Int) : Int := (joinTo l).getD 0
def joinE (l : List Int) : Int := if (joinTo l).isSome then 0 else 90
theorem joinTo_snoc (l : List Int) (k : Int) : joinTo (l ++ [k]) = match joinTo l with
  | some c => if vld c && vld k then some (c * k % 2147483579) else none
  | none => none := by
  unfold joinTo; rw [List.foldl_append]; rfl
theorem fold_none : ∀ (l : List Int), l.foldl (fun (o : Option Int) k => match o with
  | some c => if vld c && vld k then some (c * k % 2147483579) else none
  | none => none) none = none
  | [] => rfl
  | _ :: l => fold_none l
theorem joinTo_none {l r : List Int} (h : joinTo l = none) : joinTo (l ++ r) = none := by
  unfold joinTo at *; rw [List.foldl_append, h]; exact fold_none r

/-! ### sealing -/
def moreC (key : Int) (r : Tr) (i : Nat) (c : Ci) : Ci := ⟨c.a * powC 4 (r.get i) % 2147483579, c.b * powC key (r.get i) % 2147483579⟩
def stripC (n : Int) (_ : Nat) (c : Ci) : Ci := ⟨c.a, c.b * powC c.a (-n) % 2147483579⟩
def wOK (w : Tr) : Bool := elE w.p == 0 && (elE w.q == 0 && elE w.r == 0)
def seal0 (w : Tr) : Se := ⟨⟨1, elC w.p⟩, ⟨1, elC w.q⟩, ⟨1, elC w.r⟩⟩
def sealC (key : Int) (w r : Tr) : Se := if vld key && wOK w then (seal0 w).map (moreC key r) else default
def sealE (key : Int) (w : Tr) : Int := if vld key then (if wOK w then 0 else 100) else 90
def againC (key : Int) (s : Se) (r : Tr) : Se := if vld key && okS s then s.map (moreC key r) else default
def againE (key : Int) (s : Se) : Int := if vld key then chS s else 90
def strpC (n : Int) (s : Se) : Se := if secB n && okS s then s.map (stripC n) else default
def strpE (n : Int) (s : Se) : Int := if secB n then chS s else 110
def readC (s : Se) : Tr := if okS s then ⟨numC s.x.b, numC s.y.b, numC s.z.b⟩ else default
theorem elE_iff {n : Int} : (elE n == 0) = true ↔ 1 ≤ n ∧ n ≤ 1073741789 := by
  unfold elE; split <;> simp <;> omega
end Fk

set_option linter.unusedSimpArgs false
set_option linter.unusedVariables false
namespace Go.Proofs.YthboebhghaabnaaGreatDoor
open Go.RowKit Fk Sha
/-! What is committed to: openings of halves. -/
structure Og where
  a : Int
  r : Tr
  s : List B
instance : Inhabited Og := ⟨⟨0, default, []⟩⟩
def Og.cells (o : Og) : List Value := [.int .i64 o.a, .int .i64 o.r.p, .int .i64 o.r.q, .int .i64 o.r.r] ++ o.s.map bv
def i64B (n : Int) : Prop := -9223372036854775808 ≤ n ∧ n ≤ 9223372036854775807
def Og.ok (o : Og) : Prop := (i64B o.a ∧ i64B o.r.p ∧ i64B o.r.q ∧ i64B o.r.r) ∧ o.s.length = 32
def u8s (s : List B) : List UInt8 := s.map fun c => UInt8.ofNat c.toNat
def saltS (s : List B) : ByteArray := ⟨(u8s s).toArray⟩
def vtO (o : Og) : List Vt := [.int o.a, .int o.r.p, .int o.r.q, .int o.r.r, .text (saltS o.s)]
def comN (tag : ByteArray) (o : Og) : List B := tagged (sb tag) (encT (vtO o))
theorem okT_vtO {o : Og} (h : o.ok) : okT (vtO o) := by
  obtain ⟨⟨h1, h2, h3, h4⟩, h5⟩ := h
  have hs : (saltS o.s).size = 32 := by show (u8s o.s).length = 32; unfold u8s; rw [List.length_map]; exact h5
  intro i hi
  rcases (show i = 0 ∨ i = 1 ∨ i = 2 ∨ i = 3 ∨ i = 4 by simp [vtO] at hi; omega) with rfl | rfl | rfl | rfl | rfl
  · exact h1
  · exact h2
  · exact h3
  · exact h4
  · exact ⟨by rw [hs]; omega, by rw [hs]; omega⟩
theorem slice_salt (g : Nat) (w : World) : (Instr.sliceAt 58 (.pointer (some ⟨g, 4, none⟩)) none none none).run Tryz.prog w = .ok (.slice (some ⟨g, 4, none⟩) 32 32) w := by kernel_rfl
theorem conv_salt {w : World} {g : Nat} {o : Og} (h : Row w g 60 o.cells) (ho : o.s.length = 32) : (convert 102 9 (.slice (some ⟨g, 4, none⟩) 32 32)).run Tryz.prog w = .ok (.string (saltS o.s)) w := by
  have hl : (u8s o.s).length = 32 := by unfold u8s; rw [List.length_map]; exact ho
  have := run_convert_bytes_back (P := Tryz.prog) w 102 9 5 ⟨g, 4, none⟩ 32 (u8s o.s) Tryz.underlying102 Tryz.underlying5 Tryz.underlying9 (fun j hj => by
    rw [addr_add0, h.cell]
    have hj2 : j < o.s.length := by omega
    show (([.int .i64 o.a, .int .i64 o.r.p, .int .i64 o.r.q, .int .i64 o.r.r] : List Value) ++ o.s.map bv)[4 + j]? = _
    rw [List.getElem?_append_right (by simp), List.getElem?_map]
    simp only [List.length_cons, List.length_nil, Nat.reduceAdd, Nat.add_sub_cancel_left]
    rw [List.getElem?_eq_getElem hj2]
    simp only [u8s, List.getElem_map, Option.map_some]
    show some (bv o.s[j]) = _
    unfold bv bn
    rw [UInt8.toNat_ofNat', Nat.mod_eq_of_lt (by have := o.s[j].isLt; omega)])
  rw [hl] at this
  exact this
theorem oidx0 (a b c : Int) (w : World) : (Instr.index 56 (.agg #[.int .i64 a, .int .i64 b, .int .i64 c]) (.int .i64 0)).run Tryz.prog w = .ok (.int .i64 a) w := by kernel_rfl
theorem oidx1 (a b c : Int) (w : World) : (Instr.index 56 (.agg #[.int .i64 a, .int .i64 b, .int .i64 c]) (.int .i64 1)).run Tryz.prog w = .ok (.int .i64 b) w := by kernel_rfl
theorem oidx2 (a b c : Int) (w : World) : (Instr.index 56 (.agg #[.int .i64 a, .int .i64 b, .int .i64 c]) (.int .i64 2)).run Tryz.prog w = .ok (.int .i64 c) w := by kernel_rfl
structure Cm (w : World) (o : Og) (W : World) : Prop where
  b : Below w.heap.size w W
  o : Row W w.heap.size 60 o.cells
  d : Row W (w.heap.size + 1) 58 (List.replicate 32 (.int .u8 0))
  z : w.heap.size + 2 ≤ W.heap.size
theorem Cm.below {w W W' : World} {o : Og} (h : Cm w o W) (hb : Below W.heap.size W W') : Cm w o W' :=
  ⟨h.b.trans (hb.mono h.b.size), h.o.below hb h.o.lt, h.d.below hb h.d.lt, Nat.le_trans h.z hb.size⟩
theorem Cm.app {w W W' : World} {o : Og} {ob : Obj} {v : Value} (h : Cm w o W) (hg : (W.alloc ob).grownBy W' v.ownBlock) (hv : ∀ k, v.ownBlock = some k → w.heap.size + 2 ≤ k) : Cm w o W' := by
  have hz := h.z
  have hs := hg.size
  rw [World.size_alloc] at hs
  refine ⟨(h.b.alloc h.b.size ob).grown hg (by have := h.b.size; rw [World.size_alloc]; omega) (fun r e => by have := hv r e; omega), (h.o.alloc ob).keep (hg.block _ (by rw [World.size_alloc]; omega) (fun e => by have := hv _ e.symm; omega)), (h.d.alloc ob).keep (hg.block _ (by rw [World.size_alloc]; omega) (fun e => by have := hv _ e.symm; omega)), by omega⟩
set_option maxRecDepth 100000 in
set_option maxHeartbeats 8000000 in
theorem commit_any (tag : ByteArray) (o : Og) (ho : o.ok) (ht : tag.size ≤ 1000) (w : World) (hT : Tab w) (hz : 1 < w.heap.size ∧ 0 < w.heap.size) :
    Calls Tryz.prog 27 #[.string tag, .agg o.cells.toArray] w fun e w' => e = .returned (.agg ((comN tag o).map bv).toArray) ∧ Below w.heap.size w w' := by
  obtain ⟨i0, hi, hz0, hz1, hz2⟩ := info_parts infoV4
  have hok := okT_vtO ho
  have hcom : comN tag o = tagged (sb tag) (encT (vtO o)) := rfl
  have hS : saltS o.s = saltS o.s := rfl
  have hC0 : Cm w o ((w.alloc (.cells o.cells.toArray 60)).alloc (.cells (List.replicate 32 (Value.int IntKind.u8 0)).toArray 58)) :=
    ⟨((Below.refl _ w).alloc (Nat.le_refl _) _).alloc (by simp) _, (Row.new w _ o.cells).alloc _, by have := Row.new (w.alloc (.cells o.cells.toArray 60)) 58 (List.replicate 32 (Value.int IntKind.u8 0)); rwa [World.size_alloc] at this, by simp⟩
  have hcells : o.cells = [.int .i64 o.a, .int .i64 o.r.p, .int .i64 o.r.q, .int .i64 o.r.r] ++ o.s.map bv := rfl
  obtain ⟨CC, hCC⟩ : ∃ CC, o.cells.toArray = CC := ⟨_, rfl⟩
  rw [hCC] at hC0 ⊢
  have HCC := Lib.hid hCC
  clear hCC
  go_enter Tryz.func27, Tryz.ntmps27
  go_upto_region 1 with fail
  obtain ⟨W, hW⟩ : ∃ W : World, (w.alloc (.cells CC 60)).alloc (.cells (List.replicate 32 (Value.int IntKind.u8 0)).toArray 58) = W := ⟨_, rfl⟩
  rw [hW] at hC0
  refine (show _ = W from hW) ▸ ?_
  clear hW
  have c0 : W.cell? ⟨w.heap.size, 0, none⟩ = some (.int .i64 o.a) := by rw [hC0.o.cell, hcells]; rfl
  have c1 : W.cell? ⟨w.heap.size, 1, none⟩ = some (.int .i64 o.r.p) := by rw [hC0.o.cell, hcells]; rfl
  have c2 : W.cell? ⟨w.heap.size, 2, none⟩ = some (.int .i64 o.r.q) := by rw [hC0.o.cell, hcells]; rfl
  have c3 : W.cell? ⟨w.heap.size, 3, none⟩ = some (.int .i64 o.r.r) := by rw [hC0.o.cell, hcells]; rfl
  have hconv := fun (W : World) (h : Row W w.heap.size 60 o.cells) => conv_salt h ho.2
  have hv5 : [Value.int .i64 1, .int .i64 o.a, .string ⟨#[]⟩, .slice none 0 0] ++ [.int .i64 1, .int .i64 o.r.p, .string ⟨#[]⟩, .slice none 0 0] ++ [.int .i64 1, .int .i64 o.r.q, .string ⟨#[]⟩, .slice none 0 0] ++ [.int .i64 1, .int .i64 o.r.r, .string ⟨#[]⟩, .slice none 0 0] ++ [.int .i64 2, .int .i64 0, .string (saltS o.s), .slice none 0 0] = (vtO o).flatMap encVt := rfl
  have hen : ∀ (A : Option Addr) (c : Nat) (W : World) (h : SlT W W.heap.size (.slice A 5 c) (vtO o)), Calls Tryz.prog 54 #[.agg #[.int .i64 3, .int .i64 0, .string ⟨#[]⟩, .slice A 5 c]] W fun e w' => ∃ v, e = .returned (.tuple #[v, .int .i64 0]) ∧ ownB w' v (encT (vtO o)) ∧ Below W.heap.size W w' := fun A c W h => encodeT_list (vtO o) A c W h hok (by simp [vtO]) (by simp [vtO])
  have hel : (encT (vtO o)).length ≤ 1099511627000 := by
    have h1 := flatT_length hok (vtO o).length (Nat.le_refl _)
    rw [List.take_length] at h1
    have h2 := numeral_length 9 (vtO o).length (by simp [vtO])
    unfold encT
    rw [List.length_append, List.length_cons]
    simp [vtO] at h1 h2 ⊢
    omega
  obtain ⟨S, hSS⟩ : ∃ S, saltS o.s = S := ⟨_, rfl⟩
  rw [hSS] at hv5
  have hVl : (vtO o).length = 5 := rfl
  obtain ⟨V, hV⟩ : ∃ V, vtO o = V := ⟨_, rfl⟩
  rw [hV] at hVl
  rw [hV] at hv5 hen hel hcom
  obtain ⟨E, hE⟩ : ∃ E, encT V = E := ⟨_, rfl⟩
  rw [hE] at hen hel hcom
  have HCOM := Lib.hid hcom
  have HEN := Lib.hid hen
  have HV5 := Lib.hid hv5
  have HCONV := Lib.hid hconv
  have HT := Lib.hid hT
  have HSS := Lib.hid hSS
  clear hok hcom hen hv5 hconv hT hSS hV hE hS hcells HCC ho
  generalize o.a = oa at *
  generalize o.r.p = op at *
  generalize o.r.q = oq at *
  generalize o.r.r = orr at *
  have hsl := fun w' => slice_salt w.heap.size w'
  have hi0 := fun w' => oidx0 op oq orr w'
  have hi1 := fun w' => oidx1 op oq orr w'
  have hi2 := fun w' => oidx2 op oq orr w'
  have hzW : w.heap.size < W.heap.size := by have := hC0.z; omega
  go_upto_region 3 with fail
  have hown0 : (W.alloc (.cells #[.int .i64 1, .int .i64 oa, .string ⟨#[]⟩, .slice none 0 0] 101)).ownsRow (w.heap.size + 2) 101 4 (.slice (some ⟨W.heap.size, 0, none⟩) 1 1) 1 [.int .i64 1, .int .i64 oa, .string ⟨#[]⟩, .slice none 0 0] :=
    ⟨rfl, .inr ⟨W.heap.size, 1, #[.int .i64 1, .int .i64 oa, .string ⟨#[]⟩, .slice none 0 0], rfl, hC0.z, Row.new W _ _, Nat.le_refl _, by unfold maxLen; omega, rfl, rfl⟩⟩
  have C0 := hC0.below (below_alloc' W (.cells #[.int .i64 1, .int .i64 oa, .string ⟨#[]⟩, .slice none 0 0] 101))
  obtain ⟨w0, hw0⟩ : ∃ w0, W.alloc (.cells #[.int .i64 1, .int .i64 oa, .string ⟨#[]⟩, .slice none 0 0] 101) = w0 := ⟨_, rfl⟩
  rw [hw0] at hown0 C0 ⊢
  clear hw0 c0 c1 c2 c3 hC0 hzW
  generalize W.heap.size = g0 at *
  go_wp2_with fail
  refine wp_loop_rounds 4 ?_
  rw [rounds_succ]
  go_wp2_with (at_builtin; refine wpList_append_lies _ rfl _ _ 99 rfl (w.heap.size + 2) 101 i0 (.agg #[.int .i64 0, .int .i64 0, .string ⟨#[]⟩, .slice none 0 0]) 4 56 Tryz.underlying99 hi hz0 hz1 hz2 rfl (by decide) _ _ _ rfl (hown0.alloc _) ⟨w0.heap.size, 0, none⟩ 1 1 [.int .i64 1, .int .i64 op, .string ⟨#[]⟩, .slice none 0 0] rfl rfl (cell_four _ _ _ _ _ _) (by simp [Value.oneCell']) (by decide) (by unfold maxLen; omega) (by omega) (by have := C0.z; simp; omega) _ rfl ?_; intro g1 cap1 w1 hown1 hgr hat hlt; have C1 := C0.app hgr (fun k e => (hown0.lt k e).1); clear hgr hat hlt)
  rw [rounds_succ]
  go_wp2_with (at_builtin; refine wpList_append_lies _ rfl _ _ 99 rfl (w.heap.size + 2) 101 i0 (.agg #[.int .i64 0, .int .i64 0, .string ⟨#[]⟩, .slice none 0 0]) 4 56 Tryz.underlying99 hi hz0 hz1 hz2 rfl (by decide) _ _ _ rfl (hown1.alloc _) ⟨w1.heap.size, 0, none⟩ 1 1 [.int .i64 1, .int .i64 oq, .string ⟨#[]⟩, .slice none 0 0] rfl rfl (cell_four _ _ _ _ _ _) (by simp [Value.oneCell']) (by decide) (by unfold maxLen; omega) (by omega) (by have := C1.z; simp; omega) _ rfl ?_; intro g2 cap2 w2 hown2 hgr hat hlt; have C2 := C1.app hgr (fun k e => (hown1.lt k e).1); clear hgr hat hlt)
  rw [rounds_succ]
  go_wp2_with (at_builtin; refine wpList_append_lies _ rfl _ _ 99 rfl (w.heap.size + 2) 101 i0 (.agg #[.int .i64 0, .int .i64 0, .string ⟨#[]⟩, .slice none 0 0]) 4 56 Tryz.underlying99 hi hz0 hz1 hz2 rfl (by decide) _ _ _ rfl (hown2.alloc _) ⟨w2.heap.size, 0, none⟩ 1 1 [.int .i64 1, .int .i64 orr, .string ⟨#[]⟩, .slice none 0 0] rfl rfl (cell_four _ _ _ _ _ _) (by simp [Value.oneCell']) (by decide) (by unfold maxLen; omega) (by omega) (by have := C2.z; simp; omega) _ rfl ?_; intro g3 cap3 w3 hown3 hgr hat hlt; have C3 := C2.app hgr (fun k e => (hown2.lt k e).1); clear hgr hat hlt)
  rw [rounds_succ]
  have hcv := HCONV.out _ C3.o
  rw [HSS.out] at hcv
  go_upto_region 8 with (at_builtin; refine wpList_append_lies _ rfl _ _ 99 rfl (w.heap.size + 2) 101 i0 (.agg #[.int .i64 0, .int .i64 0, .string ⟨#[]⟩, .slice none 0 0]) 4 56 Tryz.underlying99 hi hz0 hz1 hz2 rfl (by decide) _ _ _ rfl (hown3.alloc _) ⟨w3.heap.size, 0, none⟩ 1 1 [.int .i64 2, .int .i64 0, .string S, .slice none 0 0] rfl rfl (cell_four _ _ _ _ _ _) (by simp [Value.oneCell']) (by decide) (by unfold maxLen; omega) (by omega) (by have := C3.z; simp; omega) _ rfl ?_; intro g4 cap4 w4 hown4 hgr hat hlt; have C4 := C3.app hgr (fun k e => (hown3.lt k e).1); clear hgr hat hlt)
  have hV4 : SlT w4 w4.heap.size (.slice (some ⟨g4, 0, none⟩) 5 cap4) V := own_slG (by rw [← HV5.out]; exact hown4) encVt_length hVl.symm (by omega)
  have he := HEN.out _ _ _ hV4
  have HE := Lib.hid he
  clear he hV4 hown4 C0 C1 C2 C3 hcv hsl hi0 hi1 hi2
  go_upto_region 9 with (go_at_call 54; (with_reducible refine HE.out.mono ?_); rintro e w5 ⟨v5, rfl, ho5, hb5⟩)
  have C5 := C4.below hb5
  obtain ⟨q1, q2⟩ := own_slB ho5 rfl (by omega)
  have htg := tagged_any tag E v5 w5 q1 q2 hel (by omega) (HT.out.keep (g := w.heap.size) hz (fun b hl => C5.b.block b hl)) (by have := C5.b.size; omega)
  have hlen := tagged_length (sb tag) E
  have hres := HCOM.out
  obtain ⟨D, hD⟩ : ∃ D, tagged (sb tag) E = D := ⟨_, rfl⟩
  rw [hD] at htg hlen hres
  have HRES := Lib.hid hres
  have HTG := Lib.hid htg
  clear htg hD hres q1 q2 ho5 hb5 HE HCOM HEN C4
  go_wp2_with fail
  refine HTG.out.mono ?_
  rintro e w6 ⟨rfl, hb6⟩
  have C6 := C5.below hb6
  have hst6 := store_old D hlen C6.d
  have hR6 : Row (w6.setRow (w.heap.size + 1) (D.map bv).toArray) (w.heap.size + 1) 58 (D.map bv) := setRow_heap w6 _ _ _ _ _ C6.d
  have hB7 := below_setRow C6.b (Nat.le_succ w.heap.size) (D.map bv).toArray
  generalize w6.setRow (w.heap.size + 1) (D.map bv).toArray = W7 at *
  have HR6 := Lib.hid hR6
  have HB6 := Lib.hid hB7
  clear hb6 hR6 hB7 C5 C6 HTG
  go_wp2_with fail
  have hinf : (Tryz.prog.info? 58).map (·.size) = some 32 := by kernel_rfl
  exact bodyPost_ret (v := .agg (D.map bv).toArray) (results_cell_row (g := w.heap.size + 1) (t := 58) (fr := (0, 0)) rfl _ _ _ _ rfl HR6.out Tryz.underlying58 rfl (by rw [hinf]; simp [hlen])) rfl ⟨by rw [HRES.out], HB6.out⟩
end Go.Proofs.YthboebhghaabnaaGreatDoor

set_option linter.unusedSimpArgs false
set_option linter.unusedVariables false
/-! Steps that take or lay many cells at once. -/
namespace Fk
open Go
section
variable {P : Program} {ops : Array Oper} {Q : Act → Prop} {w : World} {rest : List Oper} {o : Oper} {a : Act}
theorem exec_load {ty : TypeId} {x : Operand} {p v : Value} (ho : o.op = .load ty x) (hx : a.eval x = p) (hr : (Instr.loadAt ty p).run P w = .ok v w) : (execOp a.eval o).run P w = .ok (.value v) w := by
  unfold execOp
  simp only [ho, hx, Sem.run_bind, hr, Result.andThen_ok]
  rfl
theorem exec_build {t : TypeId} {parts : Array (Nat × Operand)} {cells : Array Value} {ps : List (Nat × Value)} (ho : o.op = .build t parts) (hp : parts.toList.map (fun p => (p.1, a.eval p.2)) = ps) (hf : P.built t ps = some cells) :
    (execOp a.eval o).run P w = .ok (.value (.agg cells)) w := by
  replace hf : P.built t (parts.map fun (i, x) => (i, a.eval x)).toList = some cells := by rw [Array.toList_map]; rw [← hp] at hf; exact hf
  unfold execOp
  simp only [ho, Sem.run_bind, run_build w t _ cells hf, Result.andThen_ok]
  rfl
theorem still_val {v : Value} (h : (execOp a.eval o).run P w = .ok (.value v) w) (hw : Region.wanted o (yielded ops a.tmps) = true) (hn : wpStill P ops w Q rest (a.put o.dst v)) : wpStill P ops w Q (o :: rest) a := by
  unfold wpStill
  rw [if_pos hw]
  unfold Oper.still
  rw [h, Oper.stillUpon_value]
  exact hn
theorem still_load {ty : TypeId} {x : Operand} (b off : Nat) (cs : List Value) {d : TypeDesc} (ho : o.op = .load ty x) (hx : a.eval x = .pointer (some ⟨b, off, none⟩)) (hc : w.rangeAt b off cs)
    (hu : P.underlying ty = some d) (hd : d.isRow = true) (hi : (P.info? ty).map (·.size) = some cs.length) (hw : Region.wanted o (yielded ops a.tmps) = true)
    (hn : wpStill P ops w Q rest (a.put o.dst (.agg cs.toArray))) : wpStill P ops w Q (o :: rest) a :=
  still_val (exec_load ho hx (run_loadAt_mid w b off ty cs d hc hu hd hi)) hw hn
theorem still_build {t : TypeId} {parts : Array (Nat × Operand)} (cells : Array Value) {ps : List (Nat × Value)} (ho : o.op = .build t parts) (hp : parts.toList.map (fun p => (p.1, a.eval p.2)) = ps) (hf : P.built t ps = some cells)
    (hw : Region.wanted o (yielded ops a.tmps) = true) (hn : wpStill P ops w Q rest (a.put o.dst (.agg cells))) : wpStill P ops w Q (o :: rest) a :=
  still_val (exec_build ho hp hf) hw hn
theorem yieldsIf_val {S : World → Prop} {v : Value} (hw : Region.wanted o (yielded ops a.tmps) = true) (h : ∀ w, S w → (execOp a.eval o).run P w = .ok (.value v) w) : YieldsIf P ops S o v a := .inl ⟨hw, h⟩
end
end Fk

set_option linter.unusedSimpArgs false
set_option linter.unusedVariables false
namespace Go.Proofs.YthboebhghaabnaaGreatDoor
open Go.RowKit Fk Sha
/-! A turn; the halves of a letter. -/
structure Tn where
  l : List Int
  r : List Int
  rl : List Tr
  rr : List Tr
  s : List (List B)
def encS (s : Se) : List Value := s.cells
abbrev SlS (w : World) (B0 : Nat) (v : Value) (l : List Se) : Prop := SlG 6 encS w B0 v l
def encD (d : List B) : List Value := d.map bv
/-- where a turn's slices lie -/
structure TnA where
  al : Option Addr
  cl : Nat
  ar : Option Addr
  cr : Nat
  arl : Option Addr
  crl : Nat
  arr : Option Addr
  crr : Nat
  at_ : Option Addr
  ct : Nat
def TnA.cells (x : TnA) (t : Tn) : List Value := [.slice x.al t.l.length x.cl, .slice x.ar t.r.length x.cr, .slice x.arl t.rl.length x.crl, .slice x.arr t.rr.length x.crr, .slice x.at_ t.s.length x.ct]
structure TnS (w : World) (B0 : Nat) (x : TnA) (t : Tn) : Prop where
  l : SlI w B0 (.slice x.al t.l.length x.cl) t.l
  r : SlI w B0 (.slice x.ar t.r.length x.cr) t.r
  rl : SlG 3 Tr.cells w B0 (.slice x.arl t.rl.length x.crl) t.rl
  rr : SlG 3 Tr.cells w B0 (.slice x.arr t.rr.length x.crr) t.rr
  s : SlG 64 encD w B0 (.slice x.at_ t.s.length x.ct) t.s
theorem TnS.below {w w' : World} {B0 : Nat} {x : TnA} {t : Tn} (h : TnS w B0 x t) (hb : Below B0 w w') : TnS w' B0 x t := ⟨h.l.below hb, h.r.below hb, h.rl.below hb, h.rr.below hb, h.s.below hb⟩
theorem TnS.mono {w : World} {B0 B1 : Nat} {x : TnA} {t : Tn} (h : TnS w B0 x t) (hb : B0 ≤ B1) : TnS w B1 x t := ⟨h.l.mono hb, h.r.mono hb, h.rl.mono hb, h.rr.mono hb, h.s.mono hb⟩
theorem sl_at {α : Type} [Inhabited α] {m : Nat} {enc : α → List Value} {w : World} {B0 n c : Nat} {A : Option Addr} {l : List α} (h : SlG m enc w B0 (.slice A n c) l) {j : Nat} (hj : j < l.length) :
    ∃ b off, A = some ⟨b, off, none⟩ ∧ b < B0 ∧ ∀ k, k < m → w.cell? ⟨b, off + j * m + k, none⟩ = some ((enc (l.getD j default)).getD k undef) := by
  obtain ⟨_, A', c', hv, hE⟩ := h
  obtain ⟨b, off, rfl, hb, hE⟩ := hE (by omega)
  cases hv
  exact ⟨b, off, rfl, hb, fun k hk => hE j hj k hk⟩
def zOgC : List Value := [.int .i64 0, .int .i64 0, .int .i64 0, .int .i64 0] ++ List.replicate 32 (Value.int IntKind.u8 0)
theorem og_one (o : Og) : ∀ v ∈ o.cells, v.oneCell' = true := by
  intro v hv
  unfold Og.cells at hv
  rw [List.mem_append] at hv
  rcases hv with hv | hv
  · simp at hv
    rcases hv with rfl | rfl | rfl | rfl <;> rfl
  · obtain ⟨y, _, rfl⟩ := List.mem_map.1 hv
    rfl
def ogL (t : Tn) (j : Nat) : Og := ⟨t.l.getD j default, t.rl.getD j default, (t.s.getD j default).take 32⟩
def ogR (t : Tn) (j : Nat) : Og := ⟨t.r.getD j default, t.rr.getD j default, ((t.s.getD j default).drop 32).take 32⟩
theorem list32 {α : Type} {l : List α} (h : l.length = 32) : ∃ a0 a1 a2 a3 a4 a5 a6 a7 a8 a9 a10 a11 a12 a13 a14 a15 a16 a17 a18 a19 a20 a21 a22 a23 a24 a25 a26 a27 a28 a29 a30 a31 : α,
    l = [a0, a1, a2, a3, a4, a5, a6, a7, a8, a9, a10, a11, a12, a13, a14, a15, a16, a17, a18, a19, a20, a21, a22, a23, a24, a25, a26, a27, a28, a29, a30, a31] := by
  match l, h with
  | [a0, a1, a2, a3, a4, a5, a6, a7, a8, a9, a10, a11, a12, a13, a14, a15, a16, a17, a18, a19, a20, a21, a22, a23, a24, a25, a26, a27, a28, a29, a30, a31], _ => exact ⟨_, _, _, _, _, _, _, _, _, _, _, _, _, _, _, _, _, _, _, _, _, _, _, _, _, _, _, _, _, _, _, _, rfl⟩
set_option maxRecDepth 100000 in
theorem built_og (o : Og) (ho : o.s.length = 32) : Tryz.prog.built 60 [(0, .int .i64 o.a), (1, .agg #[.int .i64 o.r.p, .int .i64 o.r.q, .int .i64 o.r.r]), (2, .agg (o.s.map bv).toArray)] = some o.cells.toArray := by
  unfold Og.cells
  obtain ⟨a0, a1, a2, a3, a4, a5, a6, a7, a8, a9, a10, a11, a12, a13, a14, a15, a16, a17, a18, a19, a20, a21, a22, a23, a24, a25, a26, a27, a28, a29, a30, a31, h⟩ := list32 ho
  rw [h]
  kernel_rfl
theorem store_og (xs : List Value) (h : xs.length = 36) (h1 : ∀ v ∈ xs, v.oneCell' = true) {W : World} {g : Nat} {vs : List Value} (hR : Row W g 60 vs) (hv : vs.length = 36 := by simp) : (storeCells ⟨g, 0, none⟩ xs).run Tryz.prog W = .ok () (W.setRow g xs.toArray) := by
  have := run_storeCells_from (P := Tryz.prog) g 60 xs 0 vs.toArray W hR (by simp [h, hv]) h1
  rw [this, List.take_zero, List.nil_append]
theorem range_32 {w : World} {b off : Nat} {d : List B} (i : Nat) (h : ∀ k, k < 64 → w.cell? ⟨b, off + k, none⟩ = some ((encD d).getD k undef)) (hd : d.length = 64) (hi : i + 32 ≤ 64) : w.rangeAt b (off + i) (((d.drop i).take 32).map bv) := by
  intro j v hj
  have hlt : j < 32 := by
    have := (List.getElem?_eq_some_iff.1 hj).1
    simp at this; omega
  rw [Nat.add_assoc, h (i + j) (by omega)]
  unfold encD
  rw [List.getElem?_map, List.getElem?_take_of_lt hlt, List.getElem?_drop] at hj
  rw [List.getD_eq_getElem?_getD, List.getElem?_map, hj]
  rfl
theorem load_d {w : World} {b o : Nat} {d : List B} (h : w.rangeAt b o (d.map bv)) (hd : d.length = 32) : (Instr.loadAt 58 (.pointer (some ⟨b, o, none⟩))).run Tryz.prog w = .ok (.agg (d.map bv).toArray) w := by
  have hi : (Tryz.prog.info? 58).map (·.size) = some 32 := by kernel_rfl
  exact run_loadAt_mid w b o 58 (d.map bv) _ h Tryz.underlying58 rfl (by rw [hi, List.length_map, hd])
theorem load_dc {w : World} {b o : Nat} {d : List B} (h : w.rangeAt b o (d.map bv)) (hd : d.length = 32) : (loadCellsFrom ⟨b, o, none⟩ 0 32 #[]).run Tryz.prog w = .ok (d.map bv).toArray w := by
  have := run_loadCells_list (P := Tryz.prog) w ⟨b, o, none⟩ (d.map bv) (fun j v hv => by rw [Addr.add_mid]; exact h j v hv)
  rw [List.length_map, hd] at this
  exact this
set_option maxRecDepth 100000 in
set_option maxHeartbeats 8000000 in
theorem half1_any (t : Tn) (x : TnA) (j : Nat) (w : World) (h : TnS w w.heap.size x t) (hl : j < t.l.length) (hrl : j < t.rl.length) (hs : j < t.s.length) (h64 : (t.s.getD j default).length = 64) :
    Calls Tryz.prog 48 #[.agg (x.cells t).toArray, .int .i64 j] w fun e w' => e = .returned (.agg (ogL t j).cells.toArray) ∧ Below w.heap.size w w' := by
  have hB := (below_alloc' w (.cells (x.cells t).toArray 27)).alloc (by simp) (.cells zOgC.toArray 60)
  have r0 := Row.new w 27 (x.cells t)
  have r1 := r0.alloc (.cells zOgC.toArray 60)
  have r2 := Row.new (w.alloc (.cells (x.cells t).toArray 27)) 60 zOgC
  rw [World.size_alloc] at r2
  have h2 := h.below hB
  obtain ⟨W, hW⟩ : ∃ W : World, (w.alloc (.cells (x.cells t).toArray 27)).alloc (.cells zOgC.toArray 60) = W := ⟨_, rfl⟩
  rw [hW] at hB r1 r2 h2
  unfold TnA.cells at r1 hW ⊢
  have c0 : W.cell? ⟨w.heap.size, 0, none⟩ = some _ := r1.cell 0
  have c2 : W.cell? ⟨w.heap.size, 2, none⟩ = some _ := r1.cell 2
  have c4 : W.cell? ⟨w.heap.size, 4, none⟩ = some _ := r1.cell 4
  obtain ⟨b0, o0, ha0, hb0, e0⟩ := sl_at h2.l hl
  obtain ⟨b2, o2, ha2, hb2, e2⟩ := sl_at h2.rl hrl
  obtain ⟨b4, o4, ha4, hb4, e4⟩ := sl_at h2.s hs
  have hog : ogL t j = ⟨t.l.getD j default, t.rl.getD j default, ((t.s.getD j default).drop 0).take 32⟩ := rfl
  have hld := range_32 0 e4 h64 (by omega)
  rw [ha0] at c0 hW ⊢
  rw [ha2] at c2 hW ⊢
  rw [ha4] at c4 hW ⊢
  rw [hog]
  clear hog ha0 ha2 ha4 e4
  obtain ⟨sl, hsl⟩ : ∃ sl, ((t.s.getD j default).drop 0).take 32 = sl := ⟨_, rfl⟩
  have hsl32 : sl.length = 32 := by rw [← hsl, List.length_take, List.length_drop, h64]; rfl
  rw [hsl] at hld ⊢
  obtain ⟨o, ho⟩ : ∃ o : Og, (⟨t.l.getD j default, t.rl.getD j default, sl⟩ : Og) = o := ⟨_, rfl⟩
  have hlen : o.cells.length = 36 := by rw [← ho]; simp [Og.cells, hsl32]
  have hone : ∀ v ∈ o.cells, v.oneCell' = true := og_one o
  have hst := fun (W' : World) (hR : Row W' (w.heap.size + 1) 60 zOgC) => store_og o.cells (by rw [← ho]; simp [Og.cells, hsl32]) hone hR (by simp [zOgC])
  rw [ho]
  have d0 := e0 0 (by omega)
  have d2 := e2 0 (by omega)
  have d3 := e2 1 (by omega)
  have d4 := e2 2 (by omega)
  replace d0 : W.cell? ⟨b0, o0 + j, none⟩ = some (.int .i64 o.a) := by rw [← ho]; simpa [encI] using d0
  replace d2 : W.cell? ⟨b2, o2 + j * 3, none⟩ = some (.int .i64 o.r.p) := by rw [← ho]; simpa [Tr.cells] using d2
  replace d3 : W.cell? ⟨b2, o2 + j * 3 + 1, none⟩ = some (.int .i64 o.r.q) := by rw [← ho]; simpa [Tr.cells] using d3
  replace d4 : W.cell? ⟨b2, o2 + j * 3 + 2, none⟩ = some (.int .i64 o.r.r) := by rw [← ho]; simpa [Tr.cells] using d4
  have hrg : W.drew.rangeAt b4 (o4 + j * 64) (o.s.map bv) := by rw [← ho]; exact hld
  have hinf : (Tryz.prog.info? 58).map (·.size) = some (o.s.map bv).length := by rw [← ho, List.length_map, hsl32]; kernel_rfl
  have hbt : Tryz.prog.built 60 [(0, .int .i64 o.a), (1, .agg #[.int .i64 o.r.p, .int .i64 o.r.q, .int .i64 o.r.r]), (2, .agg (o.s.map bv).toArray)] = some o.cells.toArray := built_og o (by rw [← ho]; exact hsl32)
  have hst2 := hst W.drew r2
  have s1 : (0 : Int) ≤ j := by omega
  have s2 : (j : Int) < t.l.length := by omega
  have s3 : (j : Int) < t.rl.length := by omega
  have s4 : (j : Int) < t.s.length := by omega
  clear e0 e2 hb0 hb2 hb4 hld hsl32 h2 h r0 hrl hl hs h64 hsl
  go_enter Tryz.func48, Tryz.ntmps48
  go_upto_region 1 with fail
  refine (show _ = W from hW) ▸ ?_
  clear hW
  go_still_tail 17, (by kernel_rfl)
  refine still_load _ _ _ rfl rfl hrg Tryz.underlying58 rfl hinf rfl ?_
  refine still_build _ rfl rfl hbt rfl ?_
  refine wpStill_nil ?_
  change wpList _ _ _ _ _ W.drew
  have hR6 : Row (W.drew.setRow (w.heap.size + 1) o.cells.toArray) (w.heap.size + 1) 60 o.cells := setRow_heap W.drew _ _ _ _ _ r2
  have hB7 := below_setRow hB.drew (Nat.le_succ w.heap.size) o.cells.toArray
  generalize W.drew.setRow (w.heap.size + 1) o.cells.toArray = W7 at *
  generalize W.drew = W6 at *
  clear hbt hrg hinf hone c0 c2 c4 d0 d2 d3 d4 hst
  go_wp2_with fail
  have hinf : (Tryz.prog.info? 60).map (·.size) = some 36 := by kernel_rfl
  exact bodyPost_ret (v := .agg o.cells.toArray) (results_cell_row (g := w.heap.size + 1) (t := 60) (fr := (0, 0)) rfl _ _ _ _ rfl hR6 Tryz.underlying60 rfl (by rw [hinf]; simp [hlen])) rfl ⟨rfl, hB7⟩
set_option maxRecDepth 100000 in
set_option maxHeartbeats 8000000 in
theorem half4_any (t : Tn) (x : TnA) (j : Nat) (w : World) (h : TnS w w.heap.size x t) (hl : j < t.r.length) (hrl : j < t.rr.length) (hs : j < t.s.length) (h64 : (t.s.getD j default).length = 64) :
    Calls Tryz.prog 51 #[.agg (x.cells t).toArray, .int .i64 j] w fun e w' => e = .returned (.agg (ogR t j).cells.toArray) ∧ Below w.heap.size w w' := by
  have hB := (below_alloc' w (.cells (x.cells t).toArray 27)).alloc (by simp) (.cells zOgC.toArray 60)
  have r0 := Row.new w 27 (x.cells t)
  have r1 := r0.alloc (.cells zOgC.toArray 60)
  have r2 := Row.new (w.alloc (.cells (x.cells t).toArray 27)) 60 zOgC
  rw [World.size_alloc] at r2
  have h2 := h.below hB
  obtain ⟨W, hW⟩ : ∃ W : World, (w.alloc (.cells (x.cells t).toArray 27)).alloc (.cells zOgC.toArray 60) = W := ⟨_, rfl⟩
  rw [hW] at hB r1 r2 h2
  unfold TnA.cells at r1 hW ⊢
  have c0 : W.cell? ⟨w.heap.size, 1, none⟩ = some _ := r1.cell 1
  have c2 : W.cell? ⟨w.heap.size, 3, none⟩ = some _ := r1.cell 3
  have c4 : W.cell? ⟨w.heap.size, 4, none⟩ = some _ := r1.cell 4
  obtain ⟨b0, o0, ha0, hb0, e0⟩ := sl_at h2.r hl
  obtain ⟨b2, o2, ha2, hb2, e2⟩ := sl_at h2.rr hrl
  obtain ⟨b4, o4, ha4, hb4, e4⟩ := sl_at h2.s hs
  have hog : ogR t j = ⟨t.r.getD j default, t.rr.getD j default, ((t.s.getD j default).drop 32).take 32⟩ := rfl
  have hld := range_32 32 e4 h64 (by omega)
  rw [ha0] at c0 hW ⊢
  rw [ha2] at c2 hW ⊢
  rw [ha4] at c4 hW ⊢
  rw [hog]
  clear hog ha0 ha2 ha4 e4
  obtain ⟨sl, hsl⟩ : ∃ sl, ((t.s.getD j default).drop 32).take 32 = sl := ⟨_, rfl⟩
  have hsl32 : sl.length = 32 := by rw [← hsl, List.length_take, List.length_drop, h64]; rfl
  rw [hsl] at hld ⊢
  obtain ⟨o, ho⟩ : ∃ o : Og, (⟨t.r.getD j default, t.rr.getD j default, sl⟩ : Og) = o := ⟨_, rfl⟩
  have hlen : o.cells.length = 36 := by rw [← ho]; simp [Og.cells, hsl32]
  have hone : ∀ v ∈ o.cells, v.oneCell' = true := og_one o
  have hst := fun (W' : World) (hR : Row W' (w.heap.size + 1) 60 zOgC) => store_og o.cells (by rw [← ho]; simp [Og.cells, hsl32]) hone hR (by simp [zOgC])
  rw [ho]
  have d0 := e0 0 (by omega)
  have d2 := e2 0 (by omega)
  have d3 := e2 1 (by omega)
  have d4 := e2 2 (by omega)
  replace d0 : W.cell? ⟨b0, o0 + j, none⟩ = some (.int .i64 o.a) := by rw [← ho]; simpa [encI] using d0
  replace d2 : W.cell? ⟨b2, o2 + j * 3, none⟩ = some (.int .i64 o.r.p) := by rw [← ho]; simpa [Tr.cells] using d2
  replace d3 : W.cell? ⟨b2, o2 + j * 3 + 1, none⟩ = some (.int .i64 o.r.q) := by rw [← ho]; simpa [Tr.cells] using d3
  replace d4 : W.cell? ⟨b2, o2 + j * 3 + 2, none⟩ = some (.int .i64 o.r.r) := by rw [← ho]; simpa [Tr.cells] using d4
  have hrg : W.drew.rangeAt b4 (o4 + j * 64 + 32) (o.s.map bv) := by rw [← ho]; exact hld
  have hinf : (Tryz.prog.info? 58).map (·.size) = some (o.s.map bv).length := by rw [← ho, List.length_map, hsl32]; kernel_rfl
  have hbt : Tryz.prog.built 60 [(0, .int .i64 o.a), (1, .agg #[.int .i64 o.r.p, .int .i64 o.r.q, .int .i64 o.r.r]), (2, .agg (o.s.map bv).toArray)] = some o.cells.toArray := built_og o (by rw [← ho]; exact hsl32)
  have hst2 := hst W.drew r2
  have s1 : (0 : Int) ≤ j := by omega
  have s2 : (j : Int) < t.r.length := by omega
  have s3 : (j : Int) < t.rr.length := by omega
  have s4 : (j : Int) < t.s.length := by omega
  clear e0 e2 hb0 hb2 hb4 hld hsl32 h2 h r0 hrl hl hs h64 hsl
  go_enter Tryz.func51, Tryz.ntmps51
  go_upto_region 1 with fail
  refine (show _ = W from hW) ▸ ?_
  clear hW
  go_still_tail 17, (by kernel_rfl)
  refine still_load _ _ _ rfl rfl hrg Tryz.underlying58 rfl hinf rfl ?_
  refine still_build _ rfl rfl hbt rfl ?_
  refine wpStill_nil ?_
  change wpList _ _ _ _ _ W.drew
  have hR6 : Row (W.drew.setRow (w.heap.size + 1) o.cells.toArray) (w.heap.size + 1) 60 o.cells := setRow_heap W.drew _ _ _ _ _ r2
  have hB7 := below_setRow hB.drew (Nat.le_succ w.heap.size) o.cells.toArray
  generalize W.drew.setRow (w.heap.size + 1) o.cells.toArray = W7 at *
  generalize W.drew = W6 at *
  clear hbt hrg hinf hone c0 c2 c4 d0 d2 d3 d4 hst
  go_wp2_with fail
  have hinf : (Tryz.prog.info? 60).map (·.size) = some 36 := by kernel_rfl
  exact bodyPost_ret (v := .agg o.cells.toArray) (results_cell_row (g := w.heap.size + 1) (t := 60) (fr := (0, 0)) rfl _ _ _ _ rfl hR6 Tryz.underlying60 rfl (by rw [hinf]; simp [hlen])) rfl ⟨rfl, hB7⟩
def halvesV : Value := .agg #[.string ⟨#[108, 101, 102, 116]⟩, .func (Fn.func 48) #[] #[], .func (Fn.func 49) #[] #[], .func (Fn.func 50) #[] #[],
  .string ⟨#[114, 105, 103, 104, 116]⟩, .func (Fn.func 51) #[] #[], .func (Fn.func 52) #[] #[], .func (Fn.func 53) #[] #[]]
set_option maxRecDepth 100000 in
set_option maxHeartbeats 2000000 in
theorem halves_any (w : World) : Calls Tryz.prog 26 #[] w fun e w' => e = .returned halvesV ∧ Below w.heap.size w w' := by
  have hB := fun (ob : Obj) => below_alloc' w ob
  go_enter Tryz.func26, Tryz.ntmps26
  go_wp2_with fail
  refine bodyPost_ret (v := halvesV) (by simp [results, Tryz.results26, go_sem]; rfl) rfl ⟨rfl, ?_⟩
  exact hB _
theorem half2_any (bm : Nat) (w : World) : Calls Tryz.prog 49 #[.pointer (some ⟨bm, 0, none⟩)] w fun e w' => e = .returned (.pointer (some ⟨bm, 3, none⟩)) ∧ w = w' := by
  go_enter Tryz.func49, Tryz.ntmps49
  go_wp2_with fail
  go_ret
  exact ⟨rfl, rfl⟩
theorem half5_any (bm : Nat) (w : World) : Calls Tryz.prog 52 #[.pointer (some ⟨bm, 0, none⟩)] w fun e w' => e = .returned (.pointer (some ⟨bm, 4, none⟩)) ∧ w = w' := by
  go_enter Tryz.func52, Tryz.ntmps52
  go_wp2_with fail
  go_ret
  exact ⟨rfl, rfl⟩
end Go.Proofs.YthboebhghaabnaaGreatDoor

namespace Go.Proofs.YthboebhghaabnaaGreatDoor
open Go.RowKit Fk

/-- what holds at the head of each loop of group.Valid -/
def VInv (X x n : Nat) (sq : Bool) : Prop := n % 2 = 1 ∧ Nat.Coprime x n ∧ (sq == jac x n) = jac X 2147483579
theorem VInv.half {X x n : Nat} {sq sq' : Bool} (h : VInv X x n sq) (hx : x % 2 = 0) (hs : sq' = (sq ^^ (n % 8 == 3 || n % 8 == 5))) : VInv X (x / 2) n sq' := by
  obtain ⟨ho, hc, he⟩ := h
  have e : x = 2 * (x / 2) := by omega
  have hc2 : Nat.Coprime 2 n := by
    have : Nat.Coprime (2 * (x / 2)) n := e ▸ hc
    exact Nat.Coprime.coprime_mul_right this
  have hc3 : Nat.Coprime (x / 2) n := by
    have : Nat.Coprime (2 * (x / 2)) n := e ▸ hc
    exact Nat.Coprime.coprime_mul_left this
  refine ⟨ho, hc3, ?_⟩
  rw [← he, hs]
  conv => rhs; rw [e, jac_mul ho hc2 hc3, jac_two ho]
  cases sq <;> cases jac (x / 2) n <;> cases (n % 8 == 3 || n % 8 == 5) <;> rfl
theorem VInv.step {X x n : Nat} {sq sq' : Bool} (h : VInv X x n sq) (hx : x % 2 = 1) (h1 : 1 < x) (hs : sq' = (sq ^^ (x % 4 == 3 && n % 4 == 3))) : VInv X (n % x) x sq' ∧ 1 ≤ n % x := by
  obtain ⟨ho, hc, he⟩ := h
  have hc' : Nat.Coprime (n % x) x := by
    have : Nat.Coprime n x := hc.symm
    rwa [Nat.Coprime, ← Nat.gcd_rec, Nat.gcd_comm] at *
  refine ⟨⟨hx, hc', ?_⟩, ?_⟩
  · rw [← he, hs, jac_mod, recip hx ho hc]
    cases sq <;> cases jac n x <;> cases (x % 4 == 3 && n % 4 == 3) <;> rfl
  · rcases Nat.eq_zero_or_pos (n % x) with h0 | h0
    · rw [h0] at hc'
      have := Nat.coprime_zero_left x |>.1 hc'
      omega
    · exact h0
theorem VInv.one {X n : Nat} {sq : Bool} (h : VInv X 1 n sq) : sq = jac X 2147483579 := by
  obtain ⟨ho, _, he⟩ := h
  rw [jac_one ho] at he
  rw [← he]; cases sq <;> rfl
theorem VInv.start {x : Nat} (h1 : 1 ≤ x) (h2 : x < 2147483579) : VInv x x 2147483579 true :=
  ⟨by omega, isP_P.coprime (by rw [Nat.mod_eq_of_lt h2]; omega), by simp⟩
theorem ret_bool {a b : Bool} (h : a = b) : Ending.returned (.bool a) = .returned (.bool b) := by rw [h]

set_option maxHeartbeats 1000000 in
theorem valid_in (x : Int) (h1 : 1 ≤ x) (h2 : x < 2147483579) (w : World) :
    Calls Tryz.prog 22 #[.int .i64 x] w fun e w' => e = .returned (.bool (jac x.toNat 2147483579)) ∧ w = w' := by
  have a1 : decide (x < 1) = false := by simp; omega
  have a2 : decide (2147483579 ≤ x) = false := by simp; omega
  go_enter Tryz.func22, Tryz.ntmps22
  go_wp2
  go_step3
  go_wp2
  go_step3
  go_wp2
  clear a1 a2
  go_loopg [0, 3, 4] x.toNat (fun k p n s wr => w = wr ∧ ∃ (n' : Nat) (sq : Bool), p = .int .i64 k ∧ n = .int .i64 n' ∧ s = .bool sq ∧ 1 ≤ k ∧ k < 2147483579 ∧ n' < 2147483580 ∧ VInv x.toNat k n' sq)
  case atStart => exact ⟨rfl, 2147483579, true, by simp; omega, rfl, rfl, by omega, by omega, by omega, VInv.start (by omega) (by omega)⟩
  case round =>
    obtain ⟨rfl, n', sq, rfl, rfl, rfl, b1, b2, b3, hI⟩ := hrel
    obtain ⟨G, rfl⟩ : ∃ G : Nat, G = gk := ⟨_, rfl⟩
    by_cases hx : 1 < G
    · have hx' : decide (1 < (G : Int)) = true := by simp; omega
      go_wp2
      go_loopg [0, 4] G (fun k p s wr => w = wr ∧ ∃ (sq' : Bool), p = .int .i64 k ∧ s = .bool sq' ∧ 1 ≤ k ∧ k ≤ G ∧ VInv x.toNat k n' sq')
      case atStart => exact ⟨rfl, sq, rfl, rfl, b1, Nat.le_refl _, hI⟩
      case round =>
        clear hI
        obtain ⟨rfl, sq', rfl, rfl, c1, c2, hI⟩ := hrel
        by_cases he : gk % 2 = 0
        · have hI2 := VInv.half hI he (sq' := (sq' ^^ (n' % 8 == 3 || n' % 8 == 5))) rfl
          by_cases h3 : n' % 8 = 3
          · have e3 : (n' % 8 == 3 || n' % 8 == 5) = true := by simp [h3]
            rw [e3, Bool.xor_true] at hI2
            have t3 : ((n' : Int) % 8 == 3) = true := by simp; omega
            clear e3 hI h3
            go_wp2
            go_roundg (gk / 2)
            case measure => omega
            case rel => exact ⟨rfl, !sq', by go_num, rfl, by omega, by omega, hI2⟩
          have t3 : ((n' : Int) % 8 == 3) = false := by simp; omega
          by_cases h5 : n' % 8 = 5
          · have e3 : (n' % 8 == 3 || n' % 8 == 5) = true := by simp [h5]
            rw [e3, Bool.xor_true] at hI2
            have t5 : ((n' : Int) % 8 == 5) = true := by simp; omega
            clear e3 hI h3 h5
            go_wp2
            go_roundg (gk / 2)
            case measure => omega
            case rel => exact ⟨rfl, !sq', by go_num, rfl, by omega, by omega, hI2⟩
          · have e3 : (n' % 8 == 3 || n' % 8 == 5) = false := by simp [h3, h5]
            rw [e3, Bool.xor_false] at hI2
            have t5 : ((n' : Int) % 8 == 5) = false := by simp; omega
            clear e3 hI h3 h5
            go_wp2
            go_roundg (gk / 2)
            case measure => omega
            case rel => exact ⟨rfl, sq', by go_num, rfl, by omega, by omega, hI2⟩
        · by_cases h1 : gk = 1
          · have hI2 := VInv.one (h1 ▸ hI)
            go_wp2
            rw [Exit.noGoto_ret]
            go_ret
            exact ⟨ret_bool hI2, rfl⟩
          · have hI2 := VInv.step hI (by omega) (by omega) (sq' := (sq' ^^ (gk % 4 == 3 && n' % 4 == 3))) rfl
            have hlt := Nat.mod_lt n' (show 0 < gk by omega)
            by_cases h3 : gk % 4 = 3 ∧ n' % 4 = 3
            · obtain ⟨h3, h4⟩ := h3
              have e3 : (gk % 4 == 3 && n' % 4 == 3) = true := by simp [h3, h4]
              rw [e3, Bool.xor_true] at hI2
              clear e3 hI
              go_wp2
              go_roundg (n' % gk)
              case measure => omega
              case rel => exact ⟨rfl, gk, !sq', by go_num, rfl, rfl, hI2.2, by omega, by omega, hI2.1⟩
            · have e3 : (gk % 4 == 3 && n' % 4 == 3) = false := by
                by_cases h4 : gk % 4 = 3
                · have : ¬ n' % 4 = 3 := fun h => h3 ⟨h4, h⟩
                  simp [this]
                · simp [h4]
              rw [e3, Bool.xor_false] at hI2
              clear e3 hI
              by_cases h4 : gk % 4 = 3
              · have h5 : ¬ n' % 4 = 3 := fun h => h3 ⟨h4, h⟩
                clear h3
                go_wp2
                go_roundg (n' % gk)
                case measure => omega
                case rel => exact ⟨rfl, gk, sq', by go_num, rfl, rfl, hI2.2, by omega, by omega, hI2.1⟩
              · clear h3
                go_wp2
                go_roundg (n' % gk)
                case measure => omega
                case rel => exact ⟨rfl, gk, sq', by go_num, rfl, rfl, hI2.2, by omega, by omega, hI2.1⟩
    · obtain rfl : G = 1 := by omega
      have hI2 := VInv.one hI
      go_wp2
      rw [Exit.noGoto_ret]
      go_ret
      exact ⟨ret_bool hI2, rfl⟩

set_option maxHeartbeats 400000 in
theorem valid_out (x : Int) (h : ¬ (1 ≤ x ∧ x < 2147483579)) (w : World) :
    Calls Tryz.prog 22 #[.int .i64 x] w fun e w' => e = .returned (.bool false) ∧ w = w' := by
  by_cases h1 : x < 1
  · go_enter Tryz.func22, Tryz.ntmps22
    go_wp2
    go_step3
    go_wp2
    rw [Exit.noGoto_ret]
    go_ret
    exact ⟨rfl, rfl⟩
  · have h2 : 2147483579 ≤ x := by omega
    clear h
    go_enter Tryz.func22, Tryz.ntmps22
    go_wp2
    go_step3
    go_wp2
    rw [Exit.noGoto_ret]
    go_ret
    exact ⟨rfl, rfl⟩
theorem valid_any (x : Int) (w : World) :
    Calls Tryz.prog 22 #[.int .i64 x] w fun e w' => e = .returned (.bool (vld x)) ∧ w = w' := by
  by_cases h : 1 ≤ x ∧ x < 2147483579
  · rw [vld_jac h.1 h.2]; exact valid_in x h.1 h.2 w
  · rw [vld_out h]; exact valid_out x h w
end Go.Proofs.YthboebhghaabnaaGreatDoor

/-! A range over a function whose iterator may keep state of its own in memory: the iterator's contract lists what it yields, names the blocks that it writes (X) and those on which it leans (Y). -/
namespace Fk
open Go Go.RowKit

/-- J stands whatever becomes of the blocks of X, and of what is new. -/
def Ab {β : Type} (X : Nat → Prop) (J : β → World → Prop) : Prop :=
  ∀ s W W' row, J s W → W.grownBy W' row → (∀ r, row = some r → X r) → J s W'
def SameOn (Y : Nat → Prop) (W W' : World) : Prop := ∀ r, Y r → W'.heap[r]? = W.heap[r]?
theorem SameOn.refl (Y : Nat → Prop) (W : World) : SameOn Y W W := fun _ _ => rfl
theorem SameOn.trans {Y : Nat → Prop} {A B C : World} (h : SameOn Y A B) (k : SameOn Y B C) : SameOn Y A C := fun r hr => (k r hr).trans (h r hr)
theorem SameOn.putObj {Y : Nat → Prop} {W : World} {l : Nat} (o : Obj) (h : ¬ Y l) : SameOn Y W (W.putObj l o) :=
  fun _ hr => World.putObj_heap_other (fun e => h (e ▸ hr))
theorem SameOn.below {Y : Nat → Prop} {n : Nat} {W W' : World} (h : Below n W W') (hY : ∀ r, Y r → r < n) : SameOn Y W W' := fun r hr => h.block r (hY r hr)
/-- the two blocks of the loop's own book-keeping lie as they lay -/
structure Kept (B : Nat) (W W' : World) : Prop where
  size : W.heap.size ≤ W'.heap.size
  one : W'.heap[B]? = W.heap[B]?
  two : W'.heap[B + 1]? = W.heap[B + 1]?
theorem Kept.refl (B : Nat) (W : World) : Kept B W W := ⟨Nat.le_refl _, rfl, rfl⟩
theorem Kept.trans {B : Nat} {X Y Z : World} (h : Kept B X Y) (k : Kept B Y Z) : Kept B X Z := ⟨Nat.le_trans h.size k.size, k.one.trans h.one, k.two.trans h.two⟩
theorem Kept.below {B n : Nat} {W W' : World} (h : Below n W W') (hn : B + 2 ≤ n) (hs : W.heap.size ≤ W'.heap.size) : Kept B W W' := ⟨hs, h.block B (by omega), h.block (B + 1) (by omega)⟩
theorem Kept.grown {B : Nat} {W W' : World} {row : Option Nat} (h : W.grownBy W' row) (hs : B + 2 ≤ W.heap.size) (h1 : row ≠ some B) (h2 : row ≠ some (B + 1)) : Kept B W W' :=
  ⟨h.size, h.block B (by omega) (fun e => h1 e.symm), h.block (B + 1) (by omega) (fun e => h2 e.symm)⟩
theorem Kept.setCell {B : Nat} (W : World) {p : Addr} (u : Value) (h1 : p.block ≠ B) (h2 : p.block ≠ B + 1) : Kept B W (W.setCell p u) :=
  ⟨by simp [World.setCell], Below.heap_setCell W p u B (fun e => h1 e.symm), Below.heap_setCell W p u (B + 1) (fun e => h2 e.symm)⟩
theorem Kept.alloc {B : Nat} (W : World) (o : Obj) (hs : B + 2 ≤ W.heap.size) : Kept B W (W.alloc o) :=
  ⟨by simp, Below.heap_alloc W o B (by omega), Below.heap_alloc W o (B + 1) (by omega)⟩
theorem Kept.drew (B : Nat) (W : World) : Kept B W W.drew := ⟨Nat.le_refl _, rfl, rfl⟩
theorem Kept.drewN (B : Nat) (W : World) (n : Nat) : Kept B W (W.drewN n) := ⟨Nat.le_refl _, rfl, rfl⟩

/-- **An iterator's contract**: it yields vals in order, till a round says 'no more'. -/
def SeqL (F : Fence) (n : Nat) (P : Program) (g : Nat) (lb : Array Value) (vals : List (Array Value)) (X Y : Nat → Prop) (T : World → Prop) (K : Nat) : Prop :=
  ∀ (l : Nat) (J Jx : Nat → World → Prop) (W : World), T W → W.heap.size = K → Ab X J → Ab X Jx →
    (∀ k v W1, J k W1 → K ≤ W1.heap.size → vals[k]? = some v → YieldAt F (n - 1) P l v W1 fun e W' =>
      (e = .returned (.bool true) ∧ J (k + 1) W' ∧ SameOn Y W1 W' ∧ W1.heap.size ≤ W'.heap.size) ∨ (e = .returned (.bool false) ∧ Jx (k + 1) W')) →
    J 0 W →
    CallsIn F n P g (#[.func (.yield l) #[] #[]] ++ lb) W fun e W' => (∃ v, e = .returned v) ∧ (J vals.length W' ∨ ∃ k, k < vals.length ∧ Jx (k + 1) W')

/-- How the body of a round may be left. -/
def postL (B : Nat) (Y : Nat → Prop) (I : Nat → World → Prop) (Ix : Code → Nat → World → Prop) (k : Nat) (W : World) : Exit → Act → World → Prop
  | .normal, _, W' => Kept B W W' ∧ SameOn Y W W' ∧ I k W'
  | .ret, _, W' => Kept B W W' ∧ Ix .ret k W'
  | .exit id, _, W' => Kept B W W' ∧ Ix (.exit id) k W'
  | .goto t, _, W' => Kept B W W' ∧ Ix (.goto t) k W'
  | .panic _, _, _ => False
  | .outgrown, _, _ => False

variable {F : Fence} {n : Nat} {P : Program}
theorem Ab.put {β : Type} {X : Nat → Prop} {J : β → World → Prop} (h : Ab X J) {s : β} {W : World} {l : Nat} (o : Obj) (hs : J s W) (hl : X l) : J s (W.putObj l o) :=
  h s W _ (some l) hs (grownBy_putObj' W l o) (fun r e => by cases e; exact hl)
theorem Ab.new {β : Type} {X : Nat → Prop} {J : β → World → Prop} (h : Ab X J) {s : β} {W : World} (o : Obj) (hs : J s W) : J s (W.alloc o) :=
  h s W _ none hs (World.grownBy_alloc W o none) (fun r e => by cases e)

set_option maxHeartbeats 1000000 in
/-- **The law of the statement**, outside every round. The loop's own two blocks are number w.heap.size (deferred calls) and w.heap.size + 1 (its record). -/
theorem wpIn_rangeL {g : Operand} {ps : Array Tmp} {assign body : Code} {Q : Exit → Act → World → Prop} {a : Act} {w : World}
    (hro : F.round = none) (h1 : 1 ≤ n) {gf : Nat} {lb : Array Value} (hg : a.eval g = .func (.func gf) #[] lb) (hFg : F.fn gf) (eg : ∀ args w, (callFunc gf args).run P w = .ok (.enter gf args) w)
    {vals : List (Array Value)} {X Y : Nat → Prop} {T : World → Prop} (hseq : SeqL F (n - 1) P gf lb vals X Y T (w.heap.size + 2))
    (hT : ∀ W, Below w.heap.size w W → T W) (hY : ¬ Y (w.heap.size + 1)) (hX0 : ¬ X w.heap.size) (hX1 : ¬ X (w.heap.size + 1)) (hps : ∀ v, v ∈ vals → v.size = ps.size)
    (I : Nat → World → Prop) (Ix : Code → Nat → World → Prop) (hI : Ab (fun r => X r ∨ r = w.heap.size + 1) I) (hIx : ∀ c, Ab (fun r => X r ∨ r = w.heap.size + 1) (Ix c)) (h0 : I 0 w)
    (Ax : Nat → Act → World → Prop) (hAx : ∀ k a', Ab (fun r => r = w.heap.size + 1) (fun (_ : Unit) W => Ax k a' W))
    (hassign : ∀ (l k : Nat) (v : Array Value) (W : World) (K : Act → World → Prop), I k W → vals[k]? = some v → w.heap.size + 2 ≤ W.heap.size →
      (∀ a' W', Kept w.heap.size W W' → SameOn Y W W' → I k W' → Ax k a' W' → K a' W') →
      assign.wpIn (F.inRound l) (n - 1 - 1) P (Exit.then K (fun _ _ _ => False)) { tmps := (ps.zip v).foldl (fun t (p, v) => t.setIfInBounds p v) a.tmps, defers := [] } W)
    (hbody : ∀ (l k : Nat) (v : Array Value) (a' : Act) (W : World), I k W → Ax k a' W → vals[k]? = some v → w.heap.size + 2 ≤ W.heap.size →
      body.wpIn (F.inRound l) (n - 1 - 1) P (postL w.heap.size Y I Ix (k + 1) W) a' W)
    (hdone : ∀ (W : World), I vals.length W → w.heap.size + 2 ≤ W.heap.size → W.heap[w.heap.size]? = some (.deferred (some [])) →
      Q .normal { a with defers := { target := .collected w.heap.size, args := #[] } :: a.defers } W)
    (hstop : ∀ (c : Code) (k : Nat) (W : World), k < vals.length → Ix c (k + 1) W → w.heap.size + 2 ≤ W.heap.size → W.heap[w.heap.size]? = some (.deferred (some [])) →
      c.wpIn F n P Q { a with defers := { target := .collected w.heap.size, args := #[] } :: a.defers } W) :
    (Code.rangeFunc g ps assign body).wpIn F n P Q a w := by
  refine wpIn_rangeFunc fun fn hfn => ?_
  rw [hro]
  generalize hB : w.heap.size = B at *
  let rec' : LoopState → Option Code → Loop := fun st pe => { state := st, pending := pe, fn, tmps := a.tmps, params := ps, assign, body, defers := B }
  let Good : World → LoopState → Option Code → Prop := fun W st pe => W.heap[B + 1]? = some (.loop (rec' st pe)) ∧ W.heap[B]? = some (.deferred (some []))
  have good_lt : ∀ {W st pe}, Good W st pe → B + 2 ≤ W.heap.size := fun h => (Array.getElem?_eq_some_iff.1 h.1).1
  have good_put : ∀ {W st pe} st' pe', Good W st pe → Good (W.putObj (B + 1) (.loop (rec' st' pe'))) st' pe' := fun st' pe' h =>
    ⟨World.putObj_heap_same (Array.getElem?_eq_some_iff.1 h.1).1, (World.putObj_heap_other (by omega)).trans h.2⟩
  have good_kept : ∀ {W W' st pe}, Good W st pe → Kept B W W' → Good W' st pe := fun h k => ⟨k.two.trans h.1, k.one.trans h.2⟩
  have good_ab : ∀ {W W' row st pe}, Good W st pe → W.grownBy W' row → (∀ r, row = some r → X r) → Good W' st pe := fun h k hr =>
    ⟨(k.block (B + 1) (Array.getElem?_eq_some_iff.1 h.1).1 (fun e => hX1 (hr _ e.symm))).trans h.1,
      (k.block B (Array.getElem?_eq_some_iff.1 h.2).1 (fun e => hX0 (hr _ e.symm))).trans h.2⟩
  obtain ⟨W1, hW1⟩ : ∃ W1, (w.alloc (.deferred (some []))).alloc (.loop (rec' .ready none)) = W1 := ⟨_, rfl⟩
  have hG1 : Good W1 .ready none := by
    rw [← hW1]
    constructor
    · have := World.alloc_heap_new (w.alloc (.deferred (some []))) (.loop (rec' .ready none))
      rwa [World.size_alloc, hB] at this
    · have := (Below.heap_alloc (w.alloc (.deferred (some []))) (.loop (rec' .ready none)) w.heap.size (by simp)).trans (World.alloc_heap_new w _)
      rwa [hB] at this
  have hI1 : I 0 W1 := by rw [← hW1]; exact hI.new _ (hI.new _ h0)
  have hT1 : T W1 := hT W1 (by
    rw [← hW1, ← hB]
    exact ((Below.refl _ w).alloc (Nat.le_refl _) _).alloc (by simp) _)
  have hsz1 : W1.heap.size = B + 2 := by rw [← hW1, ← hB]; simp
  refine ⟨B + 1, [{ target := .collected B, args := #[] }], W1, { target := .fn (.func gf) lb, args := #[.func (.yield (B + 1)) #[] #[]] }, W1, gf, #[.func (.yield (B + 1)) #[] #[]] ++ lb, W1, ?_, ?_, ?_, ?_, fun _ => h1, ?_⟩
  · rw [← hW1]; subst hB; exact run_enterLoop_outer _ _ _ _ _
  · simp only [resolve, hg]; simp [go_sem]
  · intro f' hf'
    simp [Target.leads] at hf'; subst hf'; exact hFg
  · simp [invoke, go_sem, eg]
  refine (hseq (B + 1) (fun k W => I k W ∧ Good W .ready none) (fun k W => ∃ c, Ix c k W ∧ Good W .done (some c)) W1 hT1 hsz1
    (fun s A C row hs hg' hr => ⟨hI s A C row hs.1 hg' (fun r e => .inl (hr r e)), good_ab hs.2 hg' hr⟩)
    (fun s A C row ⟨c, hs, hG⟩ hg' hr => ⟨c, hIx c s A C row hs hg' (fun r e => .inl (hr r e)), good_ab hG hg' hr⟩) ?_ ⟨hI1, hG1⟩).mono ?_
  · -- one round
    rintro k v W ⟨hi, hG⟩ _ hv
    have hy := run_yield (P := P) (args := v) hG.1 (hps v (List.mem_of_getElem? hv))
    refine ⟨fn, _, assign, body, hy, roundIn_of_wpIn hfn (hassign _ k v W _ hi hv (good_lt hG) ?_)⟩
    intro a' Wa hka hsa hia hax
    have hGa := good_kept hG hka
    refine ⟨_, run_beginRound hGa.1 rfl, ?_⟩
    have hGb := good_put .busy none hGa
    refine wpIn_mono (hbody _ k v a' _ (hI.put _ hia (.inr rfl)) ((hAx k a').put (s := ()) _ hax rfl) hv (good_lt hGb)) ?_
    have fin : ∀ (jump : Option Code) (W3 : World), Kept B (Wa.putObj (B + 1) (.loop (rec' .busy none))) W3 →
        (Instr.endRound (B + 1) jump).run P W3 = .ok (.bool jump.isNone) (W3.putObj (B + 1) (.loop (rec' (if jump.isNone then .ready else .done) jump))) ∧
        Good (W3.putObj (B + 1) (.loop (rec' (if jump.isNone then .ready else .done) jump))) (if jump.isNone then .ready else .done) jump ∧ W3.heap.size = (W3.putObj (B + 1) (.loop (rec' (if jump.isNone then .ready else .done) jump))).heap.size := fun jump W3 hk3 => by
      have hG3 := good_kept hGb hk3
      exact ⟨run_endRound (P := P) jump hG3.1, good_put _ _ hG3, by simp⟩
    rintro e a3 W3 hp
    cases e with
    | normal =>
      obtain ⟨hk3, hs3, hi3⟩ := hp
      obtain ⟨hr, hG3, hz⟩ := fin none W3 hk3
      refine ⟨_, _, hr, .inl ⟨rfl, ⟨hI.put _ hi3 (.inr rfl), hG3⟩, ((hsa.trans (SameOn.putObj _ hY)).trans hs3).trans (SameOn.putObj _ hY), ?_⟩⟩
      rw [← hz]; have := hka.size; have := hk3.size; simp at this; omega
    | ret =>
      obtain ⟨hk3, hi3⟩ := hp
      obtain ⟨hr, hG3, _⟩ := fin (some .ret) W3 hk3
      exact ⟨_, _, hr, .inr ⟨rfl, .ret, (hIx _).put _ hi3 (.inr rfl), hG3⟩⟩
    | exit id =>
      obtain ⟨hk3, hi3⟩ := hp
      obtain ⟨hr, hG3, _⟩ := fin (some (.exit id)) W3 hk3
      exact ⟨_, _, hr, .inr ⟨rfl, .exit id, (hIx _).put _ hi3 (.inr rfl), hG3⟩⟩
    | goto t =>
      obtain ⟨hk3, hi3⟩ := hp
      obtain ⟨hr, hG3, _⟩ := fin (some (.goto t)) W3 hk3
      exact ⟨_, _, hr, .inr ⟨rfl, .goto t, (hIx _).put _ hi3 (.inr rfl), hG3⟩⟩
    | panic ch => exact hp.elim
    | outgrown => exact hp.elim
  · -- behind the iterator
    rintro e W2 ⟨⟨v, rfl⟩, (⟨hi, hG⟩ | ⟨k, hk, c, hi, hG⟩)⟩
    · have hlt := good_lt hG
      exact ⟨none, _, run_endLoop (P := P) hG.1 (by simp [rec']), hdone _ (hI.put _ hi (.inr rfl)) (by simp; exact hlt) ((World.putObj_heap_other (by omega)).trans hG.2)⟩
    · have hlt := good_lt hG
      exact ⟨some c, _, run_endLoop (P := P) hG.1 (by simp [rec']), hstop c k _ hk ((hIx c).put _ hi (.inr rfl)) (by simp; exact hlt) ((World.putObj_heap_other (by omega)).trans hG.2)⟩
end Fk

namespace Go.Proofs.YthboebhghaabnaaGreatDoor
open Go.RowKit Fk

theorem ret_int {a b : Int} (h : a = b) : Ending.returned (.int .i64 a) = .returned (.int .i64 b) := by rw [h]
theorem ret_int2 {a b c d : Int} (h : a = c) (h' : b = d) : Ending.returned (.tuple #[.int .i64 a, .int .i64 b]) = .returned (.tuple #[.int .i64 c, .int .i64 d]) := by rw [h, h']

end Go.Proofs.YthboebhghaabnaaGreatDoor

namespace Go.Proofs.YthboebhghaabnaaGreatDoor
open Go.RowKit Go.Shelf Fk
attribute [local go_sem] Oper.semAt_some

def cellNat (w : World) (b : Nat) : Nat := match w.cell? ⟨b, 0, none⟩ with
  | some v => (intOf v).toNat
  | none => 0

theorem ofInt_i64 (a : Nat) (ha : a < 9223372036854775808) : (BitVec.ofInt 64 (a : Int)).toNat = a := by
  rw [BitVec.ofInt_natCast, BitVec.toNat_ofNat]; exact Nat.mod_eq_of_lt (by omega)
theorem bits_one (a : Nat) (ha : a < 9223372036854775808) : bits .and .i64 (a : Int) 1 = ((a % 2 : Nat) : Int) := by
  show IntKind.i64.wrap ((BitVec.ofInt 64 (a : Int) &&& BitVec.ofInt 64 1).toNat : Int) = _
  rw [BitVec.toNat_and, ofInt_i64 a ha]
  have e : (BitVec.ofInt 64 1).toNat = 1 := by decide
  rw [e, Nat.and_one_is_mod, IntKind.wrap_i64]
  omega
theorem lt_of_drop_cons {α : Type} {l : List α} {k : Nat} {x : α} {r : List α} (h : l.drop k = x :: r) : k < l.length := by
  rcases Nat.lt_or_ge k l.length with h1 | h1
  · exact h1
  · rw [List.drop_eq_nil_of_le h1] at h; cases h
theorem le_of_drop_nil {α : Type} {l : List α} {k : Nat} (h : ([] : List α) = l.drop k) : l.length ≤ k := List.drop_eq_nil_iff.1 h.symm
theorem sq_small {x : Nat} (h : x < 2147483579) : 0 ≤ (x : Int) * x ∧ (x : Int) * x ≤ 2147483579 * 2147483579 := by
  have m2 : x * x ≤ 2147483579 * 2147483579 := Nat.mul_le_mul (by omega) (by omega)
  have m4 : (x : Int) * x = ((x * x : Nat) : Int) := by simp
  omega

set_option maxHeartbeats 1000000 in
theorem squares_seq (a n : Nat) (ha : a < 2147483579) (hn : n < 2147483579) (ba bn K : Nat) (hne : ba ≠ bn) (m : Nat) (hm : 1 ≤ m) :
    SeqL Fence.wide m Tryz.prog 111 #[.pointer (some ⟨bn, 0, none⟩), .pointer (some ⟨ba, 0, none⟩)] ((sqList n a n).map fun p => #[.int .i64 (p.1 : Int), .bool p.2])
      (fun r => r = ba ∨ r = bn) (fun r => r = ba ∨ r = bn) (fun W => Boxed W ba 3 (.int .i64 a) ∧ Boxed W bn 3 (.int .i64 n)) K := fun l J Jx W hT hK hJ hJx hY h0 => by
  refine callsIn_of_wp Tryz.func111 rfl trivial ?_ rfl
  simp only [Tryz.ntmps111, List.size_toArray, List.length_cons, List.length_nil, Nat.reduceAdd, Nat.reduceSub, Array.replicate_succ, Array.replicate_zero, List.push_toArray, List.append_toArray, List.nil_append, List.cons_append]
  gi_wp2
  gi_loopw [] (fun wr => ∃ (k x n' f : Nat), Boxed wr ba 3 (.int .i64 x) ∧ Boxed wr bn 3 (.int .i64 n') ∧ J k wr ∧ K ≤ wr.heap.size ∧ k ≤ (sqList n a n).length ∧ n' ≤ f ∧ x < 2147483579 ∧ n' < 2147483579 ∧ Hid (sqList f x n' = (sqList n a n).drop k)) (fun wr => cellNat wr bn)
  case atStart => exact ⟨0, a, n, n, hT.1, hT.2, h0, by omega, Nat.zero_le _, Nat.le_refl _, ha, hn, rfl⟩
  case round =>
    obtain ⟨k, x, n', f, hBa, hBn, hJk, hKw, hkl, hf, hx, hn', hL⟩ := hrel
    have c1 := hBa.cell
    have c2 := hBn.cell
    have c3 := hBa.frozen
    have c4 := hBn.frozen
    by_cases h0' : 0 < n'
    · obtain ⟨f', hf', hsq⟩ := sqList_pos (a := x) h0' hf
      by_cases hp : n' % 2 = 1
      · have hv : ((sqList n a n).map fun p => (#[.int .i64 (p.1 : Int), .bool p.2] : Array Value))[k]? = some #[.int .i64 (x : Int), .bool true] := by
          have hpb : (n' % 2 == 1) = true := by simp [hp]
          have e : (sqList n a n)[k]? = some (x, true) := by
            have := congrArg (fun l => l[0]?) (hL.out.symm.trans hsq)
            simpa [hpb] using this
          rw [List.getElem?_map, e]; rfl
        have hL2 : Hid (sqList f' (x * x % 2147483579) (n' / 2) = (sqList n a n).drop (k + 1)) := by
          have := congrArg List.tail (hsq.symm.trans hL.out)
          rw [List.tail_cons, List.tail_drop] at this
          exact this
        obtain ⟨fn, tmps, assign, body, hy, hR⟩ := hY k _ wr hJk hKw hv
        have hb : bits .and .i64 (n' : Int) 1 = 1 := by rw [bits_one _ (by omega)]; omega
        have HSQ := hL.out.symm.trans hsq
        have HSQ' := Lib.hid HSQ
        clear hv hsq hL hp HSQ
        gi_wp2
        refine hR.mono ?_
        rintro e W3 (⟨rfl, hJ3, hS3, hz3⟩ | ⟨rfl, hJx3⟩)
        · have hBa3 : Boxed W3 ba 3 (.int .i64 x) := (hS3 ba (.inl rfl)).trans hBa
          have hBn3 : Boxed W3 bn 3 (.int .i64 n') := (hS3 bn (.inr rfl)).trans hBn
          have c5 := hBa3.cell
          have c6 := hBn3.cell
          have c7 := hBa3.frozen
          have c8 := hBn3.frozen
          have c9 : (W3.setCell ⟨ba, 0, none⟩ (.int .i64 ((x : Int) * x % 2147483579))).cell? ⟨bn, 0, none⟩ = some (.int .i64 n') := (hBn3.other (Ne.symm hne) _).cell
          have c10 : (W3.setCell ⟨ba, 0, none⟩ (.int .i64 ((x : Int) * x % 2147483579))).frozen? ⟨bn, 0, none⟩ = false := (hBn3.other (Ne.symm hne) _).frozen
          clear c1 c2 c3 c4 hb hy hR hY
          have hs := sq_small hx
          gi_wp2
          refine ⟨?rel, ?measure⟩
          case rel =>
            refine ⟨k + 1, x * x % 2147483579, n' / 2, f', ?_, ?_, ?_, ?_, lt_of_drop_cons HSQ'.out, hf', Nat.mod_lt _ (by omega), by omega, hL2⟩
            · have := (hBa3.set (.int .i64 ((x : Int) * x % 2147483579))).other (B' := bn) hne (.int .i64 ((n' : Int) / 2))
              simpa using this
            · have := (hBn3.other (B' := ba) (Ne.symm hne) (.int .i64 ((x : Int) * x % 2147483579))).set (.int .i64 ((n' : Int) / 2))
              simpa using this
            · exact hJ (k + 1) _ _ (some bn) (hJ (k + 1) _ _ (some ba) hJ3 (grownBy_setCell' W3 ba _) (fun r e => by cases e; exact .inl rfl)) (grownBy_setCell' _ bn _) (fun r e => by cases e; exact .inr rfl)
            · simp [World.setCell]; omega
          case measure =>
            have e1 := ((hBn3.other (B' := ba) (Ne.symm hne) (.int .i64 ((x : Int) * x % 2147483579))).set (.int .i64 ((n' : Int) / 2))).cell
            simp only [cellNat]
            rw [e1, hBn.cell]
            simp [intOf]; omega
        · gi_wp2
          refine bodyPost_ret (results_none rfl _ _ _) rfl ?_
          exact ⟨⟨_, rfl⟩, .inr ⟨k, by rw [List.length_map]; exact lt_of_drop_cons HSQ'.out, hJx3⟩⟩
      · have hv : ((sqList n a n).map fun p => (#[.int .i64 (p.1 : Int), .bool p.2] : Array Value))[k]? = some #[.int .i64 (x : Int), .bool false] := by
          have hpb : (n' % 2 == 1) = false := by simpa using hp
          have e : (sqList n a n)[k]? = some (x, false) := by
            have := congrArg (fun l => l[0]?) (hL.out.symm.trans hsq)
            simpa [hpb] using this
          rw [List.getElem?_map, e]; rfl
        have hL2 : Hid (sqList f' (x * x % 2147483579) (n' / 2) = (sqList n a n).drop (k + 1)) := by
          have := congrArg List.tail (hsq.symm.trans hL.out)
          rw [List.tail_cons, List.tail_drop] at this
          exact this
        obtain ⟨fn, tmps, assign, body, hy, hR⟩ := hY k _ wr hJk hKw hv
        have hb : bits .and .i64 (n' : Int) 1 = 0 := by rw [bits_one _ (by omega)]; omega
        have HSQ := hL.out.symm.trans hsq
        have HSQ' := Lib.hid HSQ
        clear hv hsq hL hp HSQ
        gi_wp2
        refine hR.mono ?_
        rintro e W3 (⟨rfl, hJ3, hS3, hz3⟩ | ⟨rfl, hJx3⟩)
        · have hBa3 : Boxed W3 ba 3 (.int .i64 x) := (hS3 ba (.inl rfl)).trans hBa
          have hBn3 : Boxed W3 bn 3 (.int .i64 n') := (hS3 bn (.inr rfl)).trans hBn
          have c5 := hBa3.cell
          have c6 := hBn3.cell
          have c7 := hBa3.frozen
          have c8 := hBn3.frozen
          have c9 : (W3.setCell ⟨ba, 0, none⟩ (.int .i64 ((x : Int) * x % 2147483579))).cell? ⟨bn, 0, none⟩ = some (.int .i64 n') := (hBn3.other (Ne.symm hne) _).cell
          have c10 : (W3.setCell ⟨ba, 0, none⟩ (.int .i64 ((x : Int) * x % 2147483579))).frozen? ⟨bn, 0, none⟩ = false := (hBn3.other (Ne.symm hne) _).frozen
          clear c1 c2 c3 c4 hb hy hR hY
          have hs := sq_small hx
          gi_wp2
          refine ⟨?rel, ?measure⟩
          case rel =>
            refine ⟨k + 1, x * x % 2147483579, n' / 2, f', ?_, ?_, ?_, ?_, lt_of_drop_cons HSQ'.out, hf', Nat.mod_lt _ (by omega), by omega, hL2⟩
            · have := (hBa3.set (.int .i64 ((x : Int) * x % 2147483579))).other (B' := bn) hne (.int .i64 ((n' : Int) / 2))
              simpa using this
            · have := (hBn3.other (B' := ba) (Ne.symm hne) (.int .i64 ((x : Int) * x % 2147483579))).set (.int .i64 ((n' : Int) / 2))
              simpa using this
            · exact hJ (k + 1) _ _ (some bn) (hJ (k + 1) _ _ (some ba) hJ3 (grownBy_setCell' W3 ba _) (fun r e => by cases e; exact .inl rfl)) (grownBy_setCell' _ bn _) (fun r e => by cases e; exact .inr rfl)
            · simp [World.setCell]; omega
          case measure =>
            have e1 := ((hBn3.other (B' := ba) (Ne.symm hne) (.int .i64 ((x : Int) * x % 2147483579))).set (.int .i64 ((n' : Int) / 2))).cell
            simp only [cellNat]
            rw [e1, hBn.cell]
            simp [intOf]; omega
        · gi_wp2
          refine bodyPost_ret (results_none rfl _ _ _) rfl ?_
          exact ⟨⟨_, rfl⟩, .inr ⟨k, by rw [List.length_map]; exact lt_of_drop_cons HSQ'.out, hJx3⟩⟩
    · obtain rfl : n' = 0 := by omega
      rw [sqList_zero] at hL
      have hk := le_of_drop_nil hL.out
      clear hL
      gi_wp2
      go_end0
      exact ⟨⟨_, rfl⟩, .inl (by rw [List.length_map, Nat.le_antisymm hk hkl]; exact hJk)⟩

/-! ### the exponent, and the iterator's maker -/
set_option maxHeartbeats 400000 in
theorem least_one (n : Int) (ad : Addr) (w : World) (hc : w.cell? ad = some (.int .i64 n)) :
    Calls Tryz.prog 101 #[.slice (some ad) 1 1] w fun e w' => e = .returned (.int .i64 (n % 1073741789)) ∧ w = w' := by
  have t1 := Int.tmod_lt_of_pos n (show (0 : Int) < 1073741789 by omega)
  have t2 : -1073741789 < n.tmod 1073741789 := Int.lt_tmod_of_pos n (by omega)
  have e1 : (n.tmod 1073741789 + 1073741789) % 1073741789 = n % 1073741789 := tmod_add_mod (by omega)
  have hc0 : w.cell? (ad.add 0) = some (.int .i64 n) := by simpa [Addr.add] using hc
  have H := Lib.hid e1
  clear e1
  go_enter Tryz.func101, Tryz.ntmps101
  go_wp2
  refine wp_loop_rounds 2 ?_
  rw [rounds_succ]
  go_wp2
  rw [rounds_succ]
  go_wp2
  go_ret
  exact ⟨ret_int H.out, rfl⟩

set_option maxHeartbeats 400000 in
theorem squares_any (a n : Int) (w : World) :
    Calls Tryz.prog 100 #[.int .i64 a, .int .i64 n] w fun e w' => e = .returned (.func (.func 111) #[] #[.pointer (some ⟨w.heap.size + 1, 0, none⟩), .pointer (some ⟨w.heap.size, 0, none⟩)]) ∧
      (w.alloc (.cells #[.int .i64 a] 3)).alloc (.cells #[.int .i64 n] 3) = w' := by
  go_enter Tryz.func100, Tryz.ntmps100
  go_wp2
  go_ret
  exact ⟨rfl, rfl⟩

set_option maxHeartbeats 400000 in
theorem pow_no (a n : Int) (hv : vld a = false) (w : World) :
    Calls Tryz.prog 86 #[.int .i64 a, .int .i64 n] w fun e w' => e = .returned (.tuple #[.int .i64 0, .int .i64 90]) ∧ Below w.heap.size w w' := by
  go_enter Tryz.func86, Tryz.ntmps86
  go_wp2_with (go_at_call 22; refine (valid_any _ _).mono ?_; rintro e w' ⟨rfl, rfl⟩)
  exact bodyPost_ret (v := .tuple #[.int .i64 0, .int .i64 90]) (by simp [results, Tryz.results86, go_sem]) rfl ⟨rfl, (Below.refl _ _).alloc (Nat.le_refl _) _⟩

set_option maxHeartbeats 1000000 in
theorem pow_nat (A : Nat) (n : Int) (M : Nat) (hv : vld (A : Int) = true) (hAlt : A < 2147483579) (hMlt : M < 2147483579) (hM : n % 1073741789 = (M : Int)) (w : World) :
    Calls Tryz.prog 86 #[.int .i64 (A : Int), .int .i64 n] w fun e w' => e = .returned (.tuple #[.int .i64 ((A ^ M % 2147483579 : Nat) : Int), .int .i64 0]) ∧ Below w.heap.size w w' := by
  refine (callsIn_wide (n := 3)).1 ?_
  refine callsIn_of_wp_marks Tryz.func86 rfl trivial ?_ rfl
  simp only [Tryz.ntmps86, List.size_toArray, List.length_cons, List.length_nil, Nat.reduceAdd, Nat.reduceSub, Array.replicate_succ, Array.replicate_zero, List.push_toArray, List.append_toArray, List.nil_append, List.cons_append]
  gi_wp2_with (first | (refine ⟨trivial, ?_⟩; gi_at_call 22; refine (callsIn_wide.2 (valid_any _ _)).mono ?_; rintro e w' ⟨rfl, rfl⟩) | (refine ⟨trivial, ?_⟩; gi_at_call 101; refine (callsIn_wide.2 (least_one n _ _ ?hc)).mono ?_; rotate_left; rintro e w' ⟨rfl, rfl⟩) | (refine ⟨trivial, ?_⟩; gi_at_call 100; refine (callsIn_wide.2 (squares_any _ _ _)).mono ?_; rintro e w' ⟨rfl, rfl⟩))
  case hc => simp
  clear hM
  obtain ⟨W0, hW0⟩ : ∃ W0 : World, (((w.alloc (Obj.cells #[Value.int IntKind.i64 1] 3)).alloc (Obj.cells #[Value.int IntKind.i64 n] 3)).alloc (Obj.cells #[Value.int IntKind.i64 (A : Int)] 3)).alloc
        (Obj.cells #[Value.int IntKind.i64 (M : Int)] 3) = W0 := ⟨_, rfl⟩
  have hz : W0.heap.size = w.heap.size + 4 := by rw [← hW0]; simp
  have hbC : Boxed W0 w.heap.size 3 (.int .i64 1) := by rw [← hW0]; exact (((Boxed.new w _ _).alloc _).alloc _).alloc _
  have hbA : Boxed W0 (w.heap.size + 2) 3 (.int .i64 A) := by
    rw [← hW0]
    have := (Boxed.new ((w.alloc (Obj.cells #[Value.int IntKind.i64 1] 3)).alloc (Obj.cells #[Value.int IntKind.i64 n] 3)) 3 (.int .i64 A)).alloc (Obj.cells #[Value.int IntKind.i64 (M : Int)] 3)
    simpa using this
  have hbM : Boxed W0 (w.heap.size + 3) 3 (.int .i64 M) := by
    rw [← hW0]
    have := Boxed.new (((w.alloc (Obj.cells #[Value.int IntKind.i64 1] 3)).alloc (Obj.cells #[Value.int IntKind.i64 n] 3)).alloc (Obj.cells #[Value.int IntKind.i64 (A : Int)] 3)) 3 (.int .i64 M)
    simpa using this
  have hbW : Below w.heap.size w W0 := by
    rw [← hW0]
    exact ((((Below.refl _ w).alloc (Nat.le_refl _) _).alloc (by simp) _).alloc (by simp; omega) _).alloc (by simp; omega) _
  rw [hW0]
  clear hW0
  refine wpIn_rangeL (w := W0) rfl (by omega) (gf := 111) (lb := #[.pointer (some ⟨w.heap.size + 3, 0, none⟩), .pointer (some ⟨w.heap.size + 2, 0, none⟩)]) rfl trivial (enters_of Tryz.func111 (by kernel_rfl) rfl)
    (squares_seq A M hAlt hMlt (w.heap.size + 2) (w.heap.size + 3) _ (by omega) 2 (by omega))
    (fun W hW => ⟨(hW.block _ (by omega)).trans hbA, (hW.block _ (by omega)).trans hbM⟩) (by rw [hz]; omega) (by rw [hz]; omega) (by rw [hz]; omega)
    (fun v hv => by obtain ⟨p, _, rfl⟩ := List.mem_map.1 hv; rfl)
    (fun k W => Boxed W w.heap.size 3 (.int .i64 (sqProd ((sqList M A M).take k) : Nat)) ∧ Below w.heap.size w W) (fun _ _ _ => False)
    (fun k W W' row hs hg hr => ⟨hs.1.kept hg (fun e => by have := hr _ e.symm; omega), hs.2.grown hg hs.2.size (fun r e => by have := hr _ e; omega)⟩)
    (fun _ _ _ _ _ hs _ _ => hs.elim) ⟨hbC, hbW⟩
    (fun k a' _ => ∃ p, (sqList M A M)[k]? = some p ∧ a' = { tmps := #[Value.int IntKind.i64 A, Value.int IntKind.i64 n, undef, undef, Value.pointer (some { block := w.heap.size, off := 0 }), Value.int IntKind.i64 0, .int .i64 (p.1 : Int), .bool p.2,
            Value.int IntKind.i64 A, Value.bool true, Value.bool false, Value.int IntKind.i64 A, Value.int IntKind.i64 n,
            Value.slice (some { block := w.heap.size + 1, off := 0 }) 1 1, Value.int IntKind.i64 M,
            Value.func (Fn.func 111) #[] #[Value.pointer (some { block := w.heap.size + 1 + 1 + 1, off := 0 }), Value.pointer (some { block := w.heap.size + 1 + 1, off := 0 })],
            .int .i64 (p.1 : Int), .bool p.2, undef, undef, undef, undef, undef, undef], defers := [] })
    (fun _ _ _ _ _ _ hs _ _ => hs) ?assign ?body ?done ?stop
  case assign =>
    intro l k v W K hI hv hsz hK
    rw [List.getElem?_map] at hv
    obtain ⟨p, hp, rfl⟩ := Option.map_eq_some_iff.1 hv
    clear hv
    gi_wp2
    exact hK _ _ (Kept.refl _ _) (SameOn.refl _ _) hI ⟨p, hp, rfl⟩
  case body =>
    rintro l k v a' W ⟨hC, hB⟩ ⟨⟨sq, bit⟩, hp, rfl⟩ hv hsz
    have hlt := sqList_lt M A M hAlt _ (List.mem_of_getElem? hp)
    have hclt := sqProd_lt ((sqList M A M).take k)
    have hsn : sqProd ((sqList M A M).take (k + 1)) = if bit then sqProd ((sqList M A M).take k) * sq % 2147483579 else sqProd ((sqList M A M).take k) := by
      rw [List.take_add_one, hp, Option.toList_some, sqProd_snoc]
    dsimp only at hlt
    have H := Lib.hid hsn
    have c1 := hC.cell
    have c2 := hC.frozen
    clear hsn hp hv
    generalize sqProd ((sqList M A M).take k) = c at *
    have m2 : c * sq ≤ 2147483579 * 2147483579 := Nat.mul_le_mul (by omega) (by omega)
    have m4 : (c : Int) * sq = ((c * sq : Nat) : Int) := by simp
    have m5 : 0 ≤ (c : Int) * sq ∧ (c : Int) * sq ≤ 2147483579 * 2147483579 := by omega
    clear m4
    cases bit with
    | true =>
      gi_wp2
      refine ⟨Kept.setCell _ _ (by simp only []; omega) (by simp only []; omega), ?_, ?_, ?_⟩
      · intro r hr; exact Below.heap_setCell _ _ _ r (by rcases hr with h | h <;> (rw [h]; simp))
      · have := hC.set (.int .i64 ((c : Int) * sq % 2147483579))
        rw [H.out]; simpa using this
      · exact hB.setCell (p := ⟨w.heap.size, 0, none⟩) (Nat.le_refl _) _
    | false =>
      gi_wp2
      exact ⟨Kept.refl _ _, SameOn.refl _ _, by rw [H.out]; exact hC, hB⟩
  case done =>
    rintro W ⟨hC, hB⟩ hsz hD
    rw [List.length_map, List.take_length, sqProd_all] at hC
    have c1 := hC.cell
    have c2 := hC.frozen
    obtain ⟨R, hR⟩ : ∃ R, A ^ M % 2147483579 = R := ⟨_, rfl⟩
    rw [hR] at hC c1
    have HR := Lib.hid hR
    clear hR
    gi_wp2
    have hD' : (W.setCell ⟨w.heap.size, 0, none⟩ (.int .i64 (R : Int))).heap[W0.heap.size]? = some (.deferred (some [])) := (Below.heap_setCell _ _ _ _ (by simp; omega)).trans hD
    have hC' := hC.set (.int .i64 (R : Int))
    have hB' : Below w.heap.size w (W.setCell ⟨w.heap.size, 0, none⟩ (.int .i64 (R : Int))) := hB.setCell (p := ⟨w.heap.size, 0, none⟩) (Nat.le_refl _) _
    refine ⟨by simp, .inl ⟨_, _, rfl, run_takeDeferred hD', ?_⟩⟩
    have hC2 := hC'.kept (grownBy_putObj' _ W0.heap.size (.deferred none)) (by simp; omega)
    have c5 := hC2.cell
    refine ⟨.tuple #[.int .i64 R, .int .i64 0], ?_, by rw [HR.out], ?_⟩
    · simp [results, Tryz.f86, go_sem, c5]
    · exact hB'.grown (grownBy_putObj' _ W0.heap.size (.deferred none)) hB'.size (fun r e => by cases e; omega)
  case stop =>
    rintro c k W _ h _ _
    exact h.elim

theorem pow_any (a n : Int) (w : World) :
    Calls Tryz.prog 86 #[.int .i64 a, .int .i64 n] w fun e w' => e = .returned (.tuple #[.int .i64 (powC a n), .int .i64 (powE a)]) ∧ Below w.heap.size w w' := by
  by_cases hv : vld a = true
  · have l1 := vld_lo hv
    have l2 := vld_hi hv
    obtain ⟨A, rfl⟩ : ∃ A : Nat, a = (A : Int) := ⟨a.toNat, by omega⟩
    obtain ⟨M, hM⟩ : ∃ M : Nat, n % 1073741789 = (M : Int) := ⟨(n % 1073741789).toNat, by omega⟩
    have e1 : powC (A : Int) n = ((A ^ M % 2147483579 : Nat) : Int) := by
      rw [powC, if_pos hv, pwr, hM]; rfl
    have e2 : powE (A : Int) = 0 := by simp [powE, hv]
    rw [e1, e2]
    exact pow_nat A n M hv (by omega) (by omega) hM w
  · have hv' : vld a = false := by simpa using hv
    have e1 : powC a n = 0 := by simp [powC, hv']
    have e2 : powE a = 90 := by simp [powE, hv']
    rw [e1, e2]
    exact pow_no a n hv' w
end Go.Proofs.YthboebhghaabnaaGreatDoor

namespace Go.Proofs.YthboebhghaabnaaGreatDoor
open Go.RowKit Fk

theorem mul_sm {x y : Int} (h : 0 ≤ x ∧ x < 2147483579) (h' : 0 ≤ y ∧ y < 2147483579) : 0 ≤ x * y ∧ x * y ≤ 2147483579 * 2147483579 :=
  ⟨Int.mul_nonneg (by omega) (by omega), Int.mul_le_mul (by omega) (by omega) (by omega) (by omega)⟩

set_option maxHeartbeats 400000 in
theorem times_two (x y : Int) (hx : 0 ≤ x ∧ x < 2147483579) (hy : 0 ≤ y ∧ y < 2147483579) (b : Nat) (w : World) (h0 : w.cell? ⟨b, 0, none⟩ = some (.int .i64 x)) (h1 : w.cell? ⟨b, 1, none⟩ = some (.int .i64 y)) :
    Calls Tryz.prog 72 #[.slice (some ⟨b, 0, none⟩) 2 2] w fun e w' => e = .returned (.int .i64 (x * y % 2147483579)) ∧ w = w' := by
  have m := mul_sm hx hy
  have e1 : x % 2147483579 = x := Int.emod_eq_of_lt hx.1 hx.2
  obtain ⟨hx1, hx2⟩ := hx
  obtain ⟨hy1, hy2⟩ := hy
  go_enter Tryz.func72, Tryz.ntmps72
  go_wp2
  refine wp_loop_rounds 3 ?_
  rw [rounds_succ]
  go_wp2
  rw [rounds_succ]
  go_wp2
  rw [rounds_succ]
  go_wp2
  go_ret
  exact ⟨rfl, rfl⟩
set_option maxHeartbeats 400000 in
theorem epow_any (a n : Int) (w : World) :
    Calls Tryz.prog 73 #[.int .i64 a, .int .i64 n] w fun e w' => e = .returned (.int .i64 (powC a n)) ∧ Below w.heap.size w w' := by
  generalize hp : powC a n = p
  generalize hq : powE a = q
  have hP := fun w => pow_any a n w
  rw [hp, hq] at hP
  have HP := Lib.hid hP
  clear hP hp hq
  go_enter Tryz.func73, Tryz.ntmps73
  go_wp2_with (go_at_call 86; refine (HP.out _).mono ?_; rintro e w1 ⟨rfl, hb⟩)
  go_ret
  exact ⟨rfl, hb⟩
end Go.Proofs.YthboebhghaabnaaGreatDoor

namespace Go.Proofs.YthboebhghaabnaaGreatDoor
open Go.RowKit Fk

theorem take_snocI {l : List Int} {k : Nat} (h : k < l.length) : l.take (k + 1) = l.take k ++ [l.getD k default] := by
  rw [List.take_succ_eq_append_getElem h]; simp [h]
theorem join_step {l : List Int} {k : Nat} {c : Int} (h : k < l.length) (hj : joinTo (l.take k) = some c) (hm : mulE c (l.getD k default) = 0) : joinTo (l.take (k + 1)) = some (mulC c (l.getD k default)) := by
  rw [take_snocI h, joinTo_snoc, hj]
  unfold mulE at hm
  split at hm
  · rename_i h1
    simp only
    rw [if_pos h1]; unfold mulC; rw [if_pos h1]
  · cases hm
theorem join_bad {l : List Int} {k : Nat} {c : Int} (h : k < l.length) (hj : joinTo (l.take k) = some c) (hm : mulE c (l.getD k default) ≠ 0) : joinTo l = none ∧ mulE c (l.getD k default) = 90 := by
  unfold mulE at *
  split at hm
  · exact absurd rfl hm
  · rename_i h1
    refine ⟨?_, by rw [if_neg h1]⟩
    have : joinTo (l.take (k + 1)) = none := by
      rw [take_snocI h, joinTo_snoc, hj]
      simp only
      rw [if_neg h1]
    rw [← List.take_append_drop (k + 1) l]
    exact joinTo_none this
end Go.Proofs.YthboebhghaabnaaGreatDoor

namespace Go.Proofs.YthboebhghaabnaaGreatDoor
open Go.RowKit Go.Shelf Fk
attribute [local go_sem] Oper.semAt_some

def ciV (bs k : Nat) : Array Value := #[.int .i64 (k : Int), .pointer (some ⟨bs, k * 2, none⟩)]
def ciVals (bs : Nat) : List (Array Value) := (List.range 3).map (ciV bs)
theorem ciVals_get (bs : Nat) {k : Nat} (h : k < 3) : (ciVals bs)[k]? = some (ciV bs k) := by
  unfold ciVals; rw [List.getElem?_map, List.getElem?_range h]; rfl
theorem ciVals_length (bs : Nat) : (ciVals bs).length = 3 := by simp [ciVals]
theorem ciVals_some {bs k : Nat} {v : Array Value} (h : (ciVals bs)[k]? = some v) : k < 3 ∧ v = ciV bs k := by
  have hk : k < 3 := by have := (List.getElem?_eq_some_iff.1 h).1; rwa [ciVals_length] at this
  rw [ciVals_get bs hk] at h
  exact ⟨hk, by injection h with h; exact h.symm⟩

set_option maxHeartbeats 1000000 in
theorem ciphers_seq (bs bc K : Nat) (m : Nat) (hm : 1 ≤ m) :
    SeqL Fence.wide m Tryz.prog 85 #[.pointer (some ⟨bc, 0, none⟩)] (ciVals bs)
      (fun _ => False) (fun r => r = bc) (fun W => Boxed W bc 116 (.pointer (some ⟨bs, 0, none⟩))) K := fun l J Jx W hT hsz hJ hJx hY h0 => by
  refine callsIn_of_wp Tryz.func85 rfl trivial ?_ rfl
  simp only [Tryz.ntmps85, List.size_toArray, List.length_cons, List.length_nil, Nat.reduceAdd, Nat.reduceSub, Array.replicate_succ, Array.replicate_zero, List.push_toArray, List.append_toArray, List.nil_append, List.cons_append]
  gi_wp2
  gi_loopw [4] (fun i wr => ∃ k : Nat, i = .int .i64 k ∧ k ≤ 3 ∧ Boxed wr bc 116 (.pointer (some ⟨bs, 0, none⟩)) ∧ J k wr ∧ K ≤ wr.heap.size) (fun i _ => 3 - (intOf i).toNat)
  case atStart => exact ⟨0, rfl, by omega, hT, h0, by omega⟩
  case round =>
    obtain ⟨k, rfl, hk, hB, hJk, hKw⟩ := hrel
    have c1 := hB.cell
    by_cases h3 : k < 3
    · have hv := ciVals_get bs h3
      obtain ⟨fn, tmps, assign, body, hy, hR⟩ := hY k _ wr hJk hKw hv
      unfold ciV at hy
      have s5 : (0 : Int) ≤ k := by omega
      have s6 : (k : Int) < 3 := by omega
      clear hv
      gi_wp2
      refine hR.mono ?_
      rintro e W3 (⟨rfl, hJ3, hS3, hz3⟩ | ⟨rfl, hJx3⟩)
      · have hB3 : Boxed W3 bc 116 (.pointer (some ⟨bs, 0, none⟩)) := (hS3 bc rfl).trans hB
        clear c1 hy hR hY
        gi_wp2
        refine ⟨⟨k + 1, by go_num, by omega, hB3, hJ3, by omega⟩, by simp [intOf]; omega⟩
      · clear hy hR hY
        gi_wp2
        refine bodyPost_ret (results_none rfl _ _ _) rfl ?_
        exact ⟨⟨_, rfl⟩, .inr ⟨k, by rw [ciVals_length]; exact h3, hJx3⟩⟩
    · obtain rfl : k = 3 := by omega
      gi_wp2
      go_end0
      exact ⟨⟨_, rfl⟩, .inl (by rw [ciVals_length]; exact hJk)⟩

set_option maxHeartbeats 400000 in
theorem ciphers_any (bs : Nat) (w : World) :
    Calls Tryz.prog 70 #[.pointer (some ⟨bs, 0, none⟩)] w fun e w' => e = .returned (.func (.func 85) #[] #[.pointer (some ⟨w.heap.size, 0, none⟩)]) ∧
      w.alloc (.cells #[.pointer (some ⟨bs, 0, none⟩)] 116) = w' := by
  go_enter Tryz.func70, Tryz.ntmps70
  go_wp2
  go_ret
  exact ⟨rfl, rfl⟩
end Go.Proofs.YthboebhghaabnaaGreatDoor
