import Derived.Test.YtlbnbginippjfaaGauss
/-! The group, in plain words: elements, products, powers, numbers. -/
namespace Fk

/-- the order of the group, as an exponent -/
def qq : Nat := 1073741789
theorem qq_eq : qq = 1073741789 := rfl
def vld (x : Int) : Bool := decide (1 ≤ x) && (decide (x < 2147483579) && jac x.toNat 2147483579)
def pwr (a n : Int) : Int := ((a.toNat ^ n.toNat % 2147483579 : Nat) : Int)
def mulC (a b : Int) : Int := if vld a && vld b then a * b % 2147483579 else 0
def mulE (a b : Int) : Int := if vld a && vld b then 0 else 90
def powC (a n : Int) : Int := if vld a then pwr a (n % 1073741789) else 0
def powE (a : Int) : Int := if vld a then 0 else 90
def elC (n : Int) : Int := if 1 ≤ n ∧ n ≤ 1073741789 then (if vld n then n else 2147483579 - n) else 0
def elE (n : Int) : Int := if 1 ≤ n ∧ n ≤ 1073741789 then 0 else 1
def numC (x : Int) : Int := if vld x then (if x ≤ 1073741789 then x else 2147483579 - x) else 0
def numE (x : Int) : Int := if vld x then 0 else 90

theorem vld_lo {x : Int} (h : vld x = true) : 1 ≤ x := by simp [vld] at h; exact h.1
theorem vld_hi {x : Int} (h : vld x = true) : x < 2147483579 := by simp [vld] at h; exact h.2.1
theorem vld_jac {x : Int} (h1 : 1 ≤ x) (h2 : x < 2147483579) : vld x = jac x.toNat 2147483579 := by simp [vld, h1, h2]
theorem vld_out {x : Int} (h : ¬ (1 ≤ x ∧ x < 2147483579)) : vld x = false := by
  by_cases h1 : 1 ≤ x
  · have h2 : ¬ x < 2147483579 := fun hc => h ⟨h1, hc⟩
    simp [vld, h2]
  · simp [vld, h1]

/-! ### powers -/
def PInv (a n c x m : Nat) : Prop := c * x ^ m % 2147483579 = a ^ n % 2147483579
theorem PInv.start (a n : Nat) : PInv a n 1 a n := by simp [PInv]
theorem pow_half (x m : Nat) : x ^ m % 2147483579 = (if m % 2 = 1 then x * (x * x % 2147483579) ^ (m / 2) else (x * x % 2147483579) ^ (m / 2)) % 2147483579 := by
  have e : (x * x % 2147483579) ^ (m / 2) % 2147483579 = x ^ (2 * (m / 2)) % 2147483579 := by
    rw [← Nat.pow_mod, Nat.pow_mul, Nat.pow_two]
  by_cases h : m % 2 = 1
  · rw [if_pos h, Nat.mul_mod, e, ← Nat.mul_mod, ← Nat.pow_succ']
    congr 2; omega
  · rw [if_neg h, e]; congr 2; omega
theorem PInv.odd {a n c x m : Nat} (h : PInv a n c x m) (ho : m % 2 = 1) : PInv a n (c * x % 2147483579) (x * x % 2147483579) (m / 2) := by
  unfold PInv at *
  rw [← h, Nat.mul_mod c (x ^ m), pow_half x m, if_pos ho, Nat.mul_mod (c * x % 2147483579), Nat.mod_mod, ← Nat.mul_mod, ← Nat.mul_mod, Nat.mul_assoc]
theorem PInv.even {a n c x m : Nat} (h : PInv a n c x m) (ho : ¬ m % 2 = 1) : PInv a n c (x * x % 2147483579) (m / 2) := by
  unfold PInv at *
  rw [← h, Nat.mul_mod c (x ^ m), pow_half x m, if_neg ho, ← Nat.mul_mod]
theorem PInv.done {a n c x : Nat} (h : PInv a n c x 0) (hc : c < 2147483579) : c = a ^ n % 2147483579 := by
  unfold PInv at h
  rw [Nat.pow_zero, Nat.mul_one, Nat.mod_eq_of_lt hc] at h
  exact h

theorem pwr_nonneg (a n : Int) : 0 ≤ pwr a n := Int.natCast_nonneg _
theorem pwr_lt (a n : Int) : pwr a n < 2147483579 := by
  unfold pwr
  have := Nat.mod_lt (a.toNat ^ n.toNat) (show 0 < 2147483579 by omega)
  omega

/-- what an element is -/
theorem vld_pow {x : Int} (h1 : 1 ≤ x) (h2 : x < 2147483579) : vld x = (pwr x 1073741789 == 1) := by
  rw [vld_jac h1 h2]
  have h := euler (p := 2147483579) (a := x.toNat) isP_P (by omega) (by rw [Nat.mod_eq_of_lt (by omega)]; omega)
  have e : (2147483579 : Nat) / 2 = 1073741789 := by omega
  rw [e] at h
  unfold pwr
  have e2 : (1073741789 : Int).toNat = 1073741789 := rfl
  rw [e2, h]
  cases jac x.toNat 2147483579 <;> rfl

theorem tmod_neg {n m : Int} (hm : 0 < m) (h : n.tmod m < 0) : n.tmod m + m = n % m := by
  have h1 := Int.emod_nonneg n (show m ≠ 0 by omega)
  have h2 := Int.emod_lt_of_pos n hm
  have h3 : (m.natAbs : Int) = m := by omega
  have e := Int.tmod_eq_emod (a := n) (b := m)
  split at e <;> omega
theorem tmod_pos {n m : Int} (hm : 0 < m) (h : 0 ≤ n.tmod m) : n.tmod m = n % m := by
  have h1 := Int.emod_nonneg n (show m ≠ 0 by omega)
  have h2 := Int.emod_lt_of_pos n hm
  have h3 : (m.natAbs : Int) = m := by omega
  have e := Int.tmod_eq_emod (a := n) (b := m)
  split at e <;> omega
theorem tmod_add_mod {n m : Int} (hm : 0 < m) : (n.tmod m + m) % m = n % m := by
  have h1 := Int.emod_nonneg n (show m ≠ 0 by omega)
  have h2 := Int.emod_lt_of_pos n hm
  rcases Int.lt_or_le (n.tmod m) 0 with h | h
  · rw [tmod_neg hm h]; exact Int.emod_eq_of_lt h1 h2
  · rw [tmod_pos hm h, Int.add_emod_right]; exact Int.emod_eq_of_lt h1 h2
/-! ### the squares that an iterator yields -/
def sqList : Nat → Nat → Nat → List (Nat × Bool)
  | 0, _, _ => []
  | f + 1, a, n => if n = 0 then [] else (a, n % 2 == 1) :: sqList f (a * a % 2147483579) (n / 2)
theorem sqList_zero (f a : Nat) : sqList f a 0 = [] := by cases f <;> simp [sqList]
theorem sqList_pos {f a n : Nat} (hn : 0 < n) (hf : n ≤ f) : ∃ f', n / 2 ≤ f' ∧ sqList f a n = (a, n % 2 == 1) :: sqList f' (a * a % 2147483579) (n / 2) := by
  cases f with
  | zero => omega
  | succ f => exact ⟨f, by omega, by rw [sqList, if_neg (by omega)]⟩
/-- the product after k rounds -/
def sqProd (l : List (Nat × Bool)) : Nat := l.foldl (fun c p => if p.2 then c * p.1 % 2147483579 else c) 1
theorem sqProd_snoc (l : List (Nat × Bool)) (p : Nat × Bool) : sqProd (l ++ [p]) = if p.2 then sqProd l * p.1 % 2147483579 else sqProd l := by simp [sqProd]
theorem sqProd_lt (l : List (Nat × Bool)) : sqProd l < 2147483579 := by
  suffices h : ∀ (l : List (Nat × Bool)) (c : Nat), c < 2147483579 → l.foldl (fun c p => if p.2 then c * p.1 % 2147483579 else c) c < 2147483579 from h l 1 (by omega)
  intro l
  induction l with
  | nil => intro c hc; exact hc
  | cons p l ih =>
    intro c hc
    rw [List.foldl_cons]
    apply ih
    split
    · exact Nat.mod_lt _ (by omega)
    · exact hc
theorem sqList_lt : ∀ (f a n : Nat), a < 2147483579 → ∀ p ∈ sqList f a n, p.1 < 2147483579
  | 0, _, _, _, p, hp => by simp [sqList] at hp
  | f + 1, a, n, ha, p, hp => by
    rw [sqList] at hp
    split at hp
    · simp at hp
    · rcases List.mem_cons.1 hp with rfl | h
      · exact ha
      · exact sqList_lt f _ _ (Nat.mod_lt _ (by omega)) p h
theorem sqList_inv (a n : Nat) : ∀ (f x m c : Nat), m ≤ f → PInv a n c x m → c < 2147483579 →
    (sqList f x m).foldl (fun c p => if p.2 then c * p.1 % 2147483579 else c) c = a ^ n % 2147483579
  | 0, x, m, c, hf, h, hc => by
    obtain rfl : m = 0 := by omega
    simp [sqList]; exact h.done hc
  | f + 1, x, m, c, hf, h, hc => by
    rw [sqList]
    split
    · rename_i h0; subst h0; exact h.done hc
    · rename_i h0
      rw [List.foldl_cons]
      by_cases ho : m % 2 = 1
      · rw [if_pos (by simp [ho])]
        exact sqList_inv a n f _ _ _ (by omega) (h.odd ho) (Nat.mod_lt _ (by omega))
      · rw [if_neg (by simp [ho])]
        exact sqList_inv a n f _ _ _ (by omega) (h.even ho) hc
theorem sqProd_all (a n : Nat) : sqProd (sqList n a n) = a ^ n % 2147483579 := sqList_inv a n n a n 1 (Nat.le_refl _) (PInv.start a n) (by omega)
/-! ### powers that the kernel can reckon -/
def pmod : Nat → Nat → Nat → Nat → Nat
  | 0, _, _, c => c
  | f + 1, x, m, c => if m = 0 then c else pmod f (x * x % 2147483579) (m / 2) (if m % 2 = 1 then c * x % 2147483579 else c)
theorem pmod_inv (a n : Nat) : ∀ (f x m c : Nat), m < 2 ^ f → PInv a n c x m → c < 2147483579 → pmod f x m c = a ^ n % 2147483579
  | 0, x, m, c, hf, h, hc => by
    obtain rfl : m = 0 := by simpa using hf
    exact h.done hc
  | f + 1, x, m, c, hf, h, hc => by
    rw [pmod]
    split
    · rename_i h0; subst h0; exact h.done hc
    · have h2 : 2 ^ (f + 1) = 2 ^ f * 2 := Nat.pow_succ 2 f
      by_cases ho : m % 2 = 1
      · rw [if_pos ho]
        exact pmod_inv a n f _ _ _ (by omega) (h.odd ho) (Nat.mod_lt _ (by omega))
      · rw [if_neg ho]
        exact pmod_inv a n f _ _ _ (by omega) (h.even ho) hc
def vldK (x : Int) : Bool := decide (1 ≤ x) && (decide (x < 2147483579) && pmod 31 x.toNat 1073741789 1 == 1)
theorem vld_K (x : Int) : vld x = vldK x := by
  by_cases h : 1 ≤ x ∧ x < 2147483579
  · rw [vld_pow h.1 h.2]
    unfold pwr vldK
    rw [show (1073741789 : Int).toNat = 1073741789 from rfl, ← pmod_inv x.toNat 1073741789 31 x.toNat 1073741789 1 (by omega) (PInv.start _ _) (by omega)]
    simp only [h.1, h.2, decide_true, Bool.true_and]
    generalize pmod 31 x.toNat 1073741789 1 = r
    by_cases hr : r = 1
    · simp [hr]
    · have : ¬ (r : Int) = 1 := by omega
      rw [beq_eq_false_iff_ne.2 hr, beq_eq_false_iff_ne.2 this]
  · rw [vld_out h]
    unfold vldK
    by_cases h1 : 1 ≤ x
    · have h2 : decide (x < 2147483579) = false := by simp; omega
      rw [h2]; simp
    · have h2 : decide (1 ≤ x) = false := by simp; omega
      rw [h2]; simp
def powK (a n : Int) : Int := if vldK a then (pmod 31 a.toNat (n % 1073741789).toNat 1 : Nat) else 0
theorem pow_K (a n : Int) : powC a n = powK a n := by
  have h1 := Int.emod_nonneg n (show (1073741789 : Int) ≠ 0 by omega)
  have h2 := Int.emod_lt_of_pos n (show (0 : Int) < 1073741789 by omega)
  unfold powC powK pwr
  rw [vld_K, pmod_inv a.toNat (n % 1073741789).toNat 31 a.toNat (n % 1073741789).toNat 1 (by omega) (PInv.start _ _) (by omega)]
theorem vld_0 : vld 0 = false := by rw [vld_K]; decide +kernel
theorem vld_1 : vld 1 = true := by rw [vld_K]; decide +kernel
theorem vld_2 : vld 2 = false := by rw [vld_K]; decide +kernel
theorem vld_4 : vld 4 = true := by rw [vld_K]; decide +kernel
theorem vld_P : vld 2147483579 = false := by rw [vld_K]; decide +kernel
theorem vld_P1 : vld 2147483578 = false := by rw [vld_K]; decide +kernel
theorem vld_P2 : vld 2147483577 = true := by rw [vld_K]; decide +kernel
theorem pow_4_2 : powC 4 2 = 16 := by rw [pow_K]; decide +kernel
theorem pow_4_Q : powC 4 1073741789 = 1 := by rw [pow_K]; decide +kernel
theorem pow_4_m1 : powC 4 (-1) = 536870895 := by rw [pow_K]; decide +kernel
theorem mul_4_4 : mulC 4 4 = 16 := by simp [mulC, vld_4]
end Fk
