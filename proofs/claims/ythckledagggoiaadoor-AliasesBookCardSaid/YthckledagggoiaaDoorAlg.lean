import Derived.Test.YthckledagggoiaaDoorPad
/-! The elements are a commutative group of the order Q. -/
namespace Fk

attribute [local irreducible] qq

theorem vld_iff {x : Int} : vld x = true ↔ 1 ≤ x ∧ x < 2147483579 ∧ x.toNat ^ qq % 2147483579 = 1 := by
  constructor
  · intro h
    have h1 := vld_lo h
    have h2 := vld_hi h
    rw [vld_pow h1 h2] at h
    refine ⟨h1, h2, ?_⟩
    unfold pwr at h
    rw [show (1073741789 : Int).toNat = qq from qq_eq.symm] at h
    have := beq_iff_eq.1 h
    omega
  · rintro ⟨h1, h2, h3⟩
    rw [vld_pow h1 h2]
    unfold pwr
    rw [show (1073741789 : Int).toNat = qq from qq_eq.symm, h3]
    rfl

theorem vld_nat {A : Nat} (h3 : A ^ qq % 2147483579 = 1) (h2 : A < 2147483579) : vld (A : Int) = true := by
  refine vld_iff.2 ⟨?_, by omega, by simpa using h3⟩
  rcases Nat.eq_zero_or_pos A with h | h
  · subst h
    rw [Nat.zero_pow (by rw [qq_eq]; omega)] at h3
    omega
  · omega
theorem nat_vld {a : Int} (h : vld a = true) : ∃ A : Nat, a = (A : Int) ∧ 1 ≤ A ∧ A < 2147483579 ∧ A ^ qq % 2147483579 = 1 := by
  obtain ⟨h1, h2, h3⟩ := vld_iff.1 h
  exact ⟨a.toNat, by omega, by omega, by omega, h3⟩

/-- exponents count modulo Q -/
theorem pow_red {A : Nat} (h : A ^ qq % 2147483579 = 1) (m : Nat) : A ^ m % 2147483579 = A ^ (m % 1073741789) % 2147483579 := by
  conv => lhs; rw [← Nat.div_add_mod m 1073741789, ← qq_eq, Nat.pow_add, Nat.pow_mul, Nat.mul_mod, Nat.pow_mod, h, Nat.one_pow]
  rw [← Nat.mul_mod, Nat.one_mul, qq_eq]
theorem mul_vld_nat {A B : Nat} (ha : A ^ qq % 2147483579 = 1) (hb : B ^ qq % 2147483579 = 1) : (A * B % 2147483579) ^ qq % 2147483579 = 1 := by
  rw [← Nat.pow_mod, Nat.mul_pow, Nat.mul_mod, ha, hb]
theorem pow_vld_nat {A : Nat} (ha : A ^ qq % 2147483579 = 1) (m : Nat) : (A ^ m % 2147483579) ^ qq % 2147483579 = 1 := by
  rw [← Nat.pow_mod, Nat.pow_right_comm, Nat.pow_mod, ha, Nat.one_pow]

theorem mulC_nat {A B : Nat} (ha : vld (A : Int) = true) (hb : vld (B : Int) = true) : mulC A B = ((A * B % 2147483579 : Nat) : Int) := by
  simp [mulC, ha, hb]
theorem powC_nat {A : Nat} (ha : vld (A : Int) = true) (n : Int) : powC A n = ((A ^ (n % 1073741789).toNat % 2147483579 : Nat) : Int) := by
  rw [powC, if_pos ha, pwr]; rfl

theorem vld_mul {a b : Int} (ha : vld a = true) (hb : vld b = true) : vld (mulC a b) = true := by
  obtain ⟨A, rfl, _, _, hA⟩ := nat_vld ha
  obtain ⟨B, rfl, _, _, hB⟩ := nat_vld hb
  rw [mulC_nat ha hb]
  exact vld_nat (mul_vld_nat hA hB) (Nat.mod_lt _ (by omega))
theorem vld_powC {a : Int} (ha : vld a = true) (n : Int) : vld (powC a n) = true := by
  obtain ⟨A, rfl, _, _, hA⟩ := nat_vld ha
  rw [powC_nat ha]
  exact vld_nat (pow_vld_nat hA _) (Nat.mod_lt _ (by omega))
theorem mul_comm' {a b : Int} (ha : vld a = true) (hb : vld b = true) : mulC a b = mulC b a := by
  obtain ⟨A, rfl, _, _, hA⟩ := nat_vld ha
  obtain ⟨B, rfl, _, _, hB⟩ := nat_vld hb
  rw [mulC_nat ha hb, mulC_nat hb ha, Nat.mul_comm]
theorem mul_assoc' {a b c : Int} (ha : vld a = true) (hb : vld b = true) (hc : vld c = true) : mulC (mulC a b) c = mulC a (mulC b c) := by
  have hab := vld_mul ha hb
  have hbc := vld_mul hb hc
  obtain ⟨A, rfl, _, _, hA⟩ := nat_vld ha
  obtain ⟨B, rfl, _, _, hB⟩ := nat_vld hb
  obtain ⟨C, rfl, _, _, hC⟩ := nat_vld hc
  rw [mulC_nat ha hb] at hab ⊢
  rw [mulC_nat hb hc] at hbc ⊢
  rw [mulC_nat hab hc, mulC_nat ha hbc]
  congr 1
  rw [Nat.mod_mul_mod, Nat.mul_mod_mod, Nat.mul_assoc]
theorem mul_one' {a : Int} (ha : vld a = true) : mulC a 1 = a := by
  have h1 := vld_lo ha
  have h2 := vld_hi ha
  simp only [mulC, ha, vld_1, Bool.and_self, if_true, Int.mul_one]
  exact Int.emod_eq_of_lt (by omega) (by omega)
theorem one_mul' {a : Int} (ha : vld a = true) : mulC 1 a = a := by rw [mul_comm' vld_1 ha, mul_one' ha]

/-! ### powers -/
theorem toNat_emod (n : Int) : ((n % 1073741789).toNat : Int) = n % 1073741789 := Int.toNat_of_nonneg (by omega)
/-- a power, for any representative of the exponent -/
theorem powC_of {A : Nat} (ha : vld (A : Int) = true) (hA : A ^ qq % 2147483579 = 1) {n : Int} {m : Nat} (h : (m : Int) % 1073741789 = n % 1073741789) : powC A n = ((A ^ m % 2147483579 : Nat) : Int) := by
  rw [powC_nat ha, pow_red hA m]
  have : (n % 1073741789).toNat = m % 1073741789 := by omega
  rw [this]
theorem pow_add' {a : Int} (ha : vld a = true) (i k : Int) : mulC (powC a i) (powC a k) = powC a (i + k) := by
  have h1 := vld_powC ha i
  have h2 := vld_powC ha k
  obtain ⟨A, rfl, _, _, hA⟩ := nat_vld ha
  rw [powC_of ha hA (n := i + k) (m := (i % 1073741789).toNat + (k % 1073741789).toNat) (by omega)]
  rw [powC_nat ha i] at h1 ⊢
  rw [powC_nat ha k] at h2 ⊢
  rw [mulC_nat h1 h2]
  congr 1
  rw [Nat.pow_add, ← Nat.mul_mod]
theorem pow_mul' {a : Int} (ha : vld a = true) (i k : Int) : powC (powC a i) k = powC a (i * k) := by
  have h1 := vld_powC ha i
  obtain ⟨A, rfl, _, _, hA⟩ := nat_vld ha
  rw [powC_of ha hA (n := i * k) (m := (i % 1073741789).toNat * (k % 1073741789).toNat)
    (by rw [Int.natCast_mul, toNat_emod, toNat_emod, ← Int.mul_emod])]
  rw [powC_nat ha i] at h1 ⊢
  rw [powC_nat h1]
  congr 1
  rw [← Nat.pow_mod, Nat.pow_mul]
theorem mul_pow' {a b : Int} (ha : vld a = true) (hb : vld b = true) (i : Int) : powC (mulC a b) i = mulC (powC a i) (powC b i) := by
  have h1 := vld_powC ha i
  have h2 := vld_powC hb i
  have h3 := vld_mul ha hb
  obtain ⟨A, rfl, _, _, hA⟩ := nat_vld ha
  obtain ⟨B, rfl, _, _, hB⟩ := nat_vld hb
  rw [mulC_nat ha hb] at h3 ⊢
  rw [powC_nat ha i] at h1 ⊢
  rw [powC_nat hb i] at h2 ⊢
  rw [mulC_nat h1 h2, powC_nat h3]
  congr 1
  rw [← Nat.pow_mod, Nat.mul_pow, Nat.mul_mod]
theorem pow_0 {a : Int} (ha : vld a = true) : powC a 0 = 1 := by
  obtain ⟨A, rfl, _, _, hA⟩ := nat_vld ha
  rw [powC_nat ha]; rfl
theorem pow_1 {a : Int} (ha : vld a = true) : powC a 1 = a := by
  obtain ⟨A, rfl, _, h, hA⟩ := nat_vld ha
  rw [powC_nat ha, show ((1 : Int) % 1073741789).toNat = 1 from rfl, Nat.pow_one, Nat.mod_eq_of_lt h]
theorem pow_congr' {a : Int} {i k : Int} (h : i % 1073741789 = k % 1073741789) : powC a i = powC a k := by
  unfold powC; rw [h]
theorem pow_2 {a : Int} (ha : vld a = true) : powC a 2 = mulC a a := by
  have := pow_add' ha 1 1
  rw [pow_1 ha] at this
  exact this.symm
theorem pow_Q {a : Int} (ha : vld a = true) : powC a 1073741789 = 1 := by
  rw [pow_congr' (k := 0) (by omega), pow_0 ha]
theorem mul_inv' {a : Int} (ha : vld a = true) : mulC a (powC a (-1)) = 1 := by
  have := pow_add' ha 1 (-1)
  rw [pow_1 ha] at this
  rw [this]; exact pow_0 ha
theorem mul_mul_inv {a b : Int} (ha : vld a = true) (hb : vld b = true) : mulC (mulC a b) (powC b (-1)) = a := by
  rw [mul_assoc' ha hb (vld_powC hb _), mul_inv' hb, mul_one' ha]

/-! ### of x and P - x exactly one is an element -/
theorem neg_pow_odd (a : Int) : ∀ m : Nat, (-a) ^ (2 * m + 1) = -(a ^ (2 * m + 1))
  | 0 => by rw [show 2 * 0 + 1 = 1 from rfl, Int.pow_succ, Int.pow_succ, Int.pow_zero, Int.pow_zero, Int.one_mul, Int.one_mul]
  | m + 1 => by
    have ih := neg_pow_odd a m
    have e : 2 * (m + 1) + 1 = (2 * m + 1) + 1 + 1 := by omega
    rw [e, Int.pow_succ, Int.pow_succ, Int.pow_succ a (2 * m + 1 + 1), Int.pow_succ a (2 * m + 1), ih]
    simp [Int.neg_mul, Int.mul_neg]
theorem euler_P {A : Nat} (h1 : 1 ≤ A) (h2 : A < 2147483579) : A ^ qq % 2147483579 = 1 ∨ A ^ qq % 2147483579 = 2147483578 := by
  have h := euler (p := 2147483579) (a := A) isP_P (by omega) (by rw [Nat.mod_eq_of_lt h2]; omega)
  rw [show (2147483579 : Nat) / 2 = qq from by rw [qq_eq]] at h
  rw [h]
  cases jac A 2147483579
  · right; rfl
  · left; rfl
theorem opp_pow {A : Nat} (h2 : A < 2147483579) : (A ^ qq % 2147483579 + (2147483579 - A) ^ qq % 2147483579) % 2147483579 = 0 := by
  have e : ((2147483579 - A : Nat) : Int) = 2147483579 + -(A : Int) := by omega
  have h1 : (((2147483579 - A) ^ qq : Nat) : Int) % 2147483579 = (-((A ^ qq : Nat) : Int)) % 2147483579 := by
    have ho := neg_pow_odd (A : Int) 536870894
    rw [show 2 * 536870894 + 1 = qq from qq_eq.symm] at ho
    rw [Int.natCast_pow, Int.natCast_pow, ← ho]
    have hc := Z_congr (p := 2147483579) (f := fun _ => ((2147483579 - A : Nat) : Int)) (g := fun _ => -(A : Int)) qq (fun _ _ => by rw [e, Int.add_emod_left])
    rw [Z_const, Z_const] at hc
    exact hc
  generalize A ^ qq = X at *
  generalize (2147483579 - A) ^ qq = Y at *
  omega
theorem vld_opp {x : Int} (h1 : 1 ≤ x) (h2 : x < 2147483579) : vld (2147483579 - x) = !vld x := by
  obtain ⟨A, rfl⟩ : ∃ A : Nat, x = (A : Int) := ⟨x.toNat, by omega⟩
  have e : (2147483579 - (A : Int)) = ((2147483579 - A : Nat) : Int) := by omega
  have h3 := opp_pow (A := A) (by omega)
  have h4 := euler_P (A := A) (by omega) (by omega)
  have h5 := euler_P (A := 2147483579 - A) (by omega) (by omega)
  rcases h4 with h4 | h4
  · have hv : vld (A : Int) = true := vld_nat h4 (by omega)
    rw [hv, e]
    by_cases hc : vld ((2147483579 - A : Nat) : Int) = true
    · obtain ⟨_, _, hc3⟩ := vld_iff.1 hc
      rw [Int.toNat_natCast] at hc3
      omega
    · simpa using hc
  · have hv : vld (A : Int) = false := by
      by_cases hc : vld (A : Int) = true
      · obtain ⟨_, _, hc3⟩ := vld_iff.1 hc
        rw [Int.toNat_natCast] at hc3
        omega
      · simpa using hc
    rw [hv, e]
    refine vld_nat ?_ (by omega)
    omega
theorem vld_sq {x : Int} (h1 : 1 ≤ x) (h2 : x < 2147483579) : vld (x * x % 2147483579) = true := by
  obtain ⟨A, rfl⟩ : ∃ A : Nat, x = (A : Int) := ⟨x.toNat, by omega⟩
  have e : ((A : Int) * A % 2147483579) = ((A * A % 2147483579 : Nat) : Int) := by simp
  rw [e]
  refine vld_nat ?_ (Nat.mod_lt _ (by omega))
  rw [← Nat.pow_mod, Nat.mul_pow, Nat.mul_mod]
  rcases euler_P (A := A) (by omega) (by omega) with h | h <;> rw [h]
theorem pow_root {x : Int} (hx : vld x = true) : powC (powC x 536870895) 2 = x := by
  rw [pow_mul' hx, pow_congr' (k := 1) (by omega), pow_1 hx]

/-! ### numbers and elements -/
theorem vld_el {n : Int} (h1 : 1 ≤ n) (h2 : n ≤ 1073741789) : vld (elC n) = true := by
  unfold elC
  rw [if_pos ⟨h1, h2⟩]
  by_cases h : vld n = true
  · rw [if_pos h]; exact h
  · rw [if_neg h, vld_opp h1 (by omega)]; simpa using h
theorem num_el {n : Int} (h1 : 1 ≤ n) (h2 : n ≤ 1073741789) : numC (elC n) = n := by
  have hv := vld_el h1 h2
  unfold numC
  rw [if_pos hv]
  have e : elC n = if vld n then n else 2147483579 - n := by unfold elC; exact if_pos ⟨h1, h2⟩
  rw [e]
  by_cases h : vld n = true
  · simp only [h, if_true]; rw [if_pos h2]
  · simp only [h, Bool.false_eq_true, if_false]; rw [if_neg (by omega)]; omega
theorem el_num {x : Int} (hv : vld x = true) : elC (numC x) = x ∧ 1 ≤ numC x ∧ numC x ≤ 1073741789 := by
  have h1 := vld_lo hv
  have h2 := vld_hi hv
  unfold numC
  rw [if_pos hv]
  by_cases h : x ≤ 1073741789
  · rw [if_pos h]
    unfold elC
    rw [if_pos ⟨h1, h⟩, if_pos hv]
    exact ⟨rfl, h1, h⟩
  · rw [if_neg h]
    have h3 : vld (2147483579 - x) = false := by rw [vld_opp h1 h2, hv]; rfl
    unfold elC
    rw [if_pos (by omega), if_neg (by simp [h3])]
    omega
theorem el_inj {n m : Int} (h1 : 1 ≤ n) (h2 : n ≤ 1073741789) (h3 : 1 ≤ m) (h4 : m ≤ 1073741789) (h : elC n = elC m) : n = m := by
  rw [← num_el h1 h2, ← num_el h3 h4, h]
/-- a product of two numbers of 32 bits -/
theorem prod_bounds {m n : Int} (h1 : -2147483648 ≤ m) (h2 : m ≤ 2147483647) (h3 : -2147483648 ≤ n) (h4 : n ≤ 2147483647) : -4611686018427387904 ≤ m * n ∧ m * n ≤ 4611686018427387904 := by
  have a1 : m.natAbs * n.natAbs ≤ 2147483648 * 2147483648 := Nat.mul_le_mul (by omega) (by omega)
  rw [← Int.natAbs_mul] at a1
  omega
theorem sq_boundsI {x : Int} (h1 : 1 ≤ x) (h2 : x < 2147483579) : 0 ≤ x * x ∧ x * x ≤ 4611686018427387904 := by
  have a1 : x.natAbs * x.natAbs ≤ 2147483579 * 2147483579 := Nat.mul_le_mul (by omega) (by omega)
  have a2 : 0 ≤ x * x := Int.mul_nonneg (by omega) (by omega)
  rw [← Int.natAbs_mul] at a1
  omega
end Fk
