import Derived.Test.YtlbnbginippjfaaArith
namespace Fk

/-! ### the two primes -/
def noDiv : Nat → Nat → Nat → Bool
  | 0, d, n => n % d != 0
  | k + 1, d, n => noDiv k d n && noDiv k (d + 2 ^ (k + 1)) n

theorem noDiv_spec : ∀ (k d n : Nat), noDiv k d n = true → ∀ i, i < 2 ^ k → n % (d + 2 * i) ≠ 0
  | 0, d, n, h, i, hi => by
    have : i = 0 := by simpa using hi
    subst this
    simpa [noDiv] using h
  | k + 1, d, n, h, i, hi => by
    simp only [noDiv, Bool.and_eq_true] at h
    by_cases hk : i < 2 ^ k
    · exact noDiv_spec k d n h.1 i hk
    · have h2 : 2 ^ (k + 1) = 2 ^ k * 2 := Nat.pow_succ 2 k
      have := noDiv_spec k (d + 2 ^ (k + 1)) n h.2 (i - 2 ^ k) (by omega)
      have e : d + 2 ^ (k + 1) + 2 * (i - 2 ^ k) = d + 2 * i := by omega
      rwa [e] at this

def IsP (n : Nat) : Prop := 1 < n ∧ ∀ d, d ∣ n → d = 1 ∨ d = n

theorem isP_of {n : Nat} (h1 : 2 < n) (ho : n % 2 = 1) (hb : n < 65536 * 65536) (hk : noDiv 15 3 n = true) : IsP n := by
  have small : ∀ d, d ∣ n → 1 < d → d < 65536 → d ≠ n → False := by
    intro d hd h1d hlt _
    obtain ⟨e, he⟩ := hd
    by_cases hpar : d % 2 = 0
    · have : n % 2 = 0 := by rw [he, Nat.mul_mod, hpar]; simp
      omega
    · have := noDiv_spec 15 3 n hk ((d - 3) / 2) (by omega)
      have e2 : 3 + 2 * ((d - 3) / 2) = d := by omega
      rw [e2, he] at this
      exact this (Nat.mul_mod_right d e)
  refine ⟨by omega, fun d hd => ?_⟩
  by_cases hd1 : d = 1
  · exact .inl hd1
  by_cases hdn : d = n
  · exact .inr hdn
  exfalso
  have hd0 : d ≠ 0 := by rintro rfl; have := Nat.zero_dvd.1 hd; omega
  by_cases hl : d < 65536
  · exact small d hd (by omega) hl hdn
  · obtain ⟨e, he⟩ := hd
    have he1 : e ≠ 1 := by rintro rfl; omega
    have he0 : e ≠ 0 := by rintro rfl; omega
    have hel : e < 65536 := by
      rcases Nat.lt_or_ge e 65536 with h | h
      · exact h
      · have := Nat.mul_le_mul (show 65536 ≤ d by omega) h
        omega
    have hen : e ≠ n := by
      intro hc
      have : 2 * e ≤ d * e := Nat.mul_le_mul_right e (by omega)
      omega
    exact small e ⟨d, by rw [Nat.mul_comm]; exact he⟩ (by omega) hel hen

theorem IsP.coprime {p a : Nat} (hp : IsP p) (h0 : a % p ≠ 0) : Nat.Coprime a p := by
  rcases hp.2 (Nat.gcd a p) (Nat.gcd_dvd_right a p) with h | h
  · exact h
  · exfalso
    have : p ∣ a := h ▸ Nat.gcd_dvd_left a p
    exact h0 (Nat.mod_eq_zero_of_dvd this)

theorem isP_P : IsP 2147483579 := isP_of (by omega) (by omega) (by omega) (by decide +kernel)
theorem isP_Q : IsP 1073741789 := isP_of (by omega) (by omega) (by omega) (by decide +kernel)

/-! ### products, modulo -/
def Z (h : Nat) (f : Nat → Int) : Int := match h with
  | 0 => 1
  | h + 1 => Z h f * f h

theorem Z_mul (f g : Nat → Int) : ∀ h, Z h (fun k => f k * g k) = Z h f * Z h g
  | 0 => rfl
  | h + 1 => by simp only [Z, Z_mul f g h]; grind
theorem Z_const (c : Int) : ∀ h, Z h (fun _ => c) = c ^ h
  | 0 => by simp [Z]
  | h + 1 => by simp only [Z, Z_const c h, Int.pow_succ]
theorem Z_congr {p : Int} {f g : Nat → Int} : ∀ h, (∀ k, k < h → f k % p = g k % p) → Z h f % p = Z h g % p
  | 0, _ => rfl
  | h + 1, hfg => by
    simp only [Z]
    rw [Int.mul_emod, Z_congr h (fun k hk => hfg k (by omega)), hfg h (by omega), ← Int.mul_emod]

def prodN (h : Nat) (f : Nat → Nat) : Nat := ((List.range h).map f).prod
theorem prodN_succ (h : Nat) (f : Nat → Nat) : prodN (h + 1) f = prodN h f * f h := by
  unfold prodN; rw [List.range_succ, List.map_append, List.prod_append]; simp
theorem Z_prodN (f : Nat → Nat) : ∀ h, Z h (fun k => (f k : Int)) = (prodN h f : Int)
  | 0 => rfl
  | h + 1 => by rw [prodN_succ, Int.natCast_mul, ← Z_prodN f h]; rfl

theorem prodN_coprime {p : Nat} (hp : IsP p) : ∀ h, h < p → Nat.Coprime (prodN h (fun k => k + 1)) p
  | 0, _ => by simp [prodN]
  | h + 1, hlt => by
    rw [prodN_succ]
    exact Nat.Coprime.mul_left (prodN_coprime hp h (by omega)) (hp.coprime (by rw [Nat.mod_eq_of_lt hlt]; omega))

theorem sign_count (q : Nat → Bool) : ∀ h, Z h (fun k => if q k then -1 else 1) = if (List.range h).countP q % 2 = 0 then 1 else -1
  | 0 => by simp [Z]
  | h + 1 => by
    rw [List.range_succ, List.countP_append]
    simp only [Z, sign_count q h, List.countP_cons, List.countP_nil]
    cases q h
    · simp
    · simp only [if_true]
      by_cases hc : (List.range h).countP q % 2 = 0
      · have : ¬ (List.countP q (List.range h) + (0 + 1)) % 2 = 0 := by omega
        rw [if_pos hc, if_neg this]; rfl
      · have : (List.countP q (List.range h) + (0 + 1)) % 2 = 0 := by omega
        rw [if_neg hc, if_pos this]; rfl

theorem emod_eq_of_dvd_sub {p a b : Int} (h : p ∣ a - b) : a % p = b % p :=
  Int.emod_eq_emod_iff_emod_sub_eq_zero.2 (Int.emod_eq_zero_of_dvd h)
theorem dvd_sub_of_emod_eq {p a b : Int} (h : a % p = b % p) : p ∣ a - b :=
  Int.dvd_of_emod_eq_zero (Int.emod_eq_emod_iff_emod_sub_eq_zero.1 h)

/-- **Gauss's lemma and Euler's criterion.** -/
theorem euler {p a : Nat} (hp : IsP p) (ho : p % 2 = 1) (ha : a % p ≠ 0) : a ^ (p / 2) % p = if jac a p then 1 else p - 1 := by
  have hc : Nat.Coprime a p := hp.coprime ha
  have hp1 : 1 < p := hp.1
  have hterm : ∀ k, k < p / 2 → ((a : Int) * ((k + 1 : Nat) : Int)) % (p : Int) = ((if decide (p / 2 < a * (k + 1) % p) then -1 else 1) * ((sg a p k + 1 : Nat) : Int)) % (p : Int) := by
    intro k hk
    have h0 := res_ne hc (show k + 1 < p by omega)
    have h1 := Nat.mod_lt (a * (k + 1)) (show 0 < p by omega)
    have hd := Nat.div_add_mod (a * (k + 1)) p
    apply emod_eq_of_dvd_sub
    have e1 : (a : Int) * ((k + 1 : Nat) : Int) = ((a * (k + 1) : Nat) : Int) := by rw [Int.natCast_mul]
    rw [e1]
    by_cases h : p / 2 < a * (k + 1) % p
    · have es : sg a p k + 1 = p - a * (k + 1) % p := by unfold sg; rw [if_pos h]; omega
      rw [es]
      simp only [h, decide_true, if_true]
      refine ⟨(a * (k + 1) / p : Nat) + 1, ?_⟩
      have e2 : ((a * (k + 1) : Nat) : Int) = (p : Int) * ((a * (k + 1) / p : Nat) : Int) + ((a * (k + 1) % p : Nat) : Int) := by
        rw [← Int.natCast_mul, ← Int.natCast_add, hd]
      rw [Int.natCast_sub (by omega)]
      rw [Int.mul_add]
      omega
    · have es : sg a p k + 1 = a * (k + 1) % p := by unfold sg; rw [if_neg h]; omega
      rw [es]
      simp only [h, decide_false, Bool.false_eq_true, if_false]
      refine ⟨(a * (k + 1) / p : Nat), ?_⟩
      have e2 : ((a * (k + 1) : Nat) : Int) = (p : Int) * ((a * (k + 1) / p : Nat) : Int) + ((a * (k + 1) % p : Nat) : Int) := by
        rw [← Int.natCast_mul, ← Int.natCast_add, hd]
      omega
  have h1 := Z_congr (p := (p : Int)) (p / 2) hterm
  rw [Z_mul (fun _ => (a : Int)) (fun k => ((k + 1 : Nat) : Int)), Z_mul (fun k => if decide (p / 2 < a * (k + 1) % p) then -1 else 1) (fun k => ((sg a p k + 1 : Nat) : Int)), Z_const,
    sign_count (fun k => decide (p / 2 < a * (k + 1) % p)), Z_prodN (fun k => k + 1), Z_prodN (fun k => sg a p k + 1)] at h1
  have hpr : prodN (p / 2) (fun k => sg a p k + 1) = prodN (p / 2) (fun k => k + 1) := by
    have := ((sg_perm ho hc).map (fun k => k + 1)).prod_nat
    rw [List.map_map] at this
    exact this
  rw [hpr] at h1
  have hF : Nat.Coprime (prodN (p / 2) (fun k => k + 1)) p := prodN_coprime hp _ (by omega)
  generalize prodN (p / 2) (fun k => k + 1) = F at *
  have hs : ∀ s : Int, ((a : Int) ^ (p / 2) * (F : Int)) % (p : Int) = (s * (F : Int)) % (p : Int) → (a : Int) ^ (p / 2) % (p : Int) = s % (p : Int) := by
    intro s hs
    apply emod_eq_of_dvd_sub
    have hd := dvd_sub_of_emod_eq hs
    rw [← Int.sub_mul] at hd
    have hn : p ∣ ((a : Int) ^ (p / 2) - s).natAbs * F := by
      have := Int.natAbs_dvd_natAbs.2 hd
      rwa [Int.natAbs_mul, Int.natAbs_natCast, Int.natAbs_natCast] at this
    have := Nat.Coprime.dvd_of_dvd_mul_right hF.symm hn
    exact Int.dvd_natAbs.1 (Int.natCast_dvd_natCast.2 this)
  have hmu : mu a p = (List.range (p / 2)).countP (fun k => decide (p / 2 < a * (k + 1) % p)) := rfl
  rw [← hmu] at h1
  have h2 := hs _ h1
  have hcast : ((a ^ (p / 2) % p : Nat) : Int) = (a : Int) ^ (p / 2) % (p : Int) := by rw [Int.natCast_emod, Int.natCast_pow]
  rw [← hcast] at h2
  unfold jac
  by_cases hm : mu a p % 2 = 0
  · rw [if_pos hm, Int.emod_eq_of_lt (by omega) (by omega)] at h2
    simp [hm]; omega
  · rw [if_neg hm] at h2
    have : (-1 : Int) % (p : Int) = p - 1 := by
      rw [show (-1 : Int) = (p - 1) + (-1) * p by omega, Int.add_mul_emod_self_right]
      exact Int.emod_eq_of_lt (by omega) (by omega)
    rw [this] at h2
    have hm1 : mu a p % 2 = 1 := by omega
    simp [hm1]; omega

end Fk
