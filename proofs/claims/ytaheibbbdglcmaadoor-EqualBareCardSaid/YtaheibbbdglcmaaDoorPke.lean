import Derived.Deep.LoopGhost
import GoSem.ClaimData
import Derived.Deep.RegionHeld3
import Derived.RegionTactic
import Derived.Deep.RegionWith
import Derived.ChangeAlike
import Derived.BigRegion
import Derived.Deep.Cut
import Derived.Test.YtaheibbbdglcmaaDoorPkd
/-! The elements are a commutative group of the order Q. -/
namespace Fk

attribute [local irreducible] qq

theorem vld_iff {x : Int} : vld x = true ↔ 1 ≤ x ∧ x < 2147483579 ∧ x.toNat ^ qq % 2147483579 = 1 := by
  constructor
  · intro h
    have h1 := vld_lo h
    have h2 := vld_hi h
    rw [vld_pow h1 h2] at h
    refine ⟨h1, h2, ?_⟩
    unfold pwr at h
    rw [show (1073741789 : Int).toNat = qq from qq_eq.symm] at h
    have := beq_iff_eq.1 h
    omega
  · rintro ⟨h1, h2, h3⟩
    rw [vld_pow h1 h2]
    unfold pwr
    rw [show (1073741789 : Int).toNat = qq from qq_eq.symm, h3]
    rfl

theorem vld_nat {A : Nat} (h3 : A ^ qq % 2147483579 = 1) (h2 : A < 2147483579) : vld (A : Int) = true := by
  refine vld_iff.2 ⟨?_, by omega, by simpa using h3⟩
  rcases Nat.eq_zero_or_pos A with h | h
  · subst h
    rw [Nat.zero_pow (by rw [qq_eq]; omega)] at h3
    omega
  · omega
theorem nat_vld {a : Int} (h : vld a = true) : ∃ A : Nat, a = (A : Int) ∧ 1 ≤ A ∧ A < 2147483579 ∧ A ^ qq % 2147483579 = 1 := by
  obtain ⟨h1, h2, h3⟩ := vld_iff.1 h
  exact ⟨a.toNat, by omega, by omega, by omega, h3⟩

/-- exponents count modulo Q -/
theorem pow_red {A : Nat} (h : A ^ qq % 2147483579 = 1) (m : Nat) : A ^ m % 2147483579 = A ^ (m % 1073741789) % 2147483579 := by
  conv => lhs; rw [← Nat.div_add_mod m 1073741789, ← qq_eq, Nat.pow_add, Nat.pow_mul, Nat.mul_mod, Nat.pow_mod, h, Nat.one_pow]
  rw [← Nat.mul_mod, Nat.one_mul, qq_eq]
theorem mul_vld_nat {A B : Nat} (ha : A ^ qq % 2147483579 = 1) (hb : B ^ qq % 2147483579 = 1) : (A * B % 2147483579) ^ qq % 2147483579 = 1 := by
  rw [← Nat.pow_mod, Nat.mul_pow, Nat.mul_mod, ha, hb]
theorem pow_vld_nat {A : Nat} (ha : A ^ qq % 2147483579 = 1) (m : Nat) : (A ^ m % 2147483579) ^ qq % 2147483579 = 1 := by
  rw [← Nat.pow_mod, Nat.pow_right_comm, Nat.pow_mod, ha, Nat.one_pow]

theorem mulC_nat {A B : Nat} (ha : vld (A : Int) = true) (hb : vld (B : Int) = true) : mulC A B = ((A * B % 2147483579 : Nat) : Int) := by
  simp [mulC, ha, hb]
theorem powC_nat {A : Nat} (ha : vld (A : Int) = true) (n : Int) : powC A n = ((A ^ (n % 1073741789).toNat % 2147483579 : Nat) : Int) := by
  rw [powC, if_pos ha, pwr]; rfl

theorem vld_mul {a b : Int} (ha : vld a = true) (hb : vld b = true) : vld (mulC a b) = true := by
  obtain ⟨A, rfl, _, _, hA⟩ := nat_vld ha
  obtain ⟨B, rfl, _, _, hB⟩ := nat_vld hb
  rw [mulC_nat ha hb]
  exact vld_nat (mul_vld_nat hA hB) (Nat.mod_lt _ (by omega))
theorem vld_powC {a : Int} (ha : vld a = true) (n : Int) : vld (powC a n) = true := by
  obtain ⟨A, rfl, _, _, hA⟩ := nat_vld ha
  rw [powC_nat ha]
  exact vld_nat (pow_vld_nat hA _) (Nat.mod_lt _ (by omega))
theorem mul_comm' {a b : Int} (ha : vld a = true) (hb : vld b = true) : mulC a b = mulC b a := by
  obtain ⟨A, rfl, _, _, hA⟩ := nat_vld ha
  obtain ⟨B, rfl, _, _, hB⟩ := nat_vld hb
  rw [mulC_nat ha hb, mulC_nat hb ha, Nat.mul_comm]
theorem mul_assoc' {a b c : Int} (ha : vld a = true) (hb : vld b = true) (hc : vld c = true) : mulC (mulC a b) c = mulC a (mulC b c) := by
  have hab := vld_mul ha hb
  have hbc := vld_mul hb hc
  obtain ⟨A, rfl, _, _, hA⟩ := nat_vld ha
  obtain ⟨B, rfl, _, _, hB⟩ := nat_vld hb
  obtain ⟨C, rfl, _, _, hC⟩ := nat_vld hc
  rw [mulC_nat ha hb] at hab ⊢
  rw [mulC_nat hb hc] at hbc ⊢
  rw [mulC_nat hab hc, mulC_nat ha hbc]
  congr 1
  rw [Nat.mod_mul_mod, Nat.mul_mod_mod, Nat.mul_assoc]
theorem mul_one' {a : Int} (ha : vld a = true) : mulC a 1 = a := by
  have h1 := vld_lo ha
  have h2 := vld_hi ha
  simp only [mulC, ha, vld_1, Bool.and_self, if_true, Int.mul_one]
  exact Int.emod_eq_of_lt (by omega) (by omega)
theorem one_mul' {a : Int} (ha : vld a = true) : mulC 1 a = a := by rw [mul_comm' vld_1 ha, mul_one' ha]

/-! ### powers -/
theorem toNat_emod (n : Int) : ((n % 1073741789).toNat : Int) = n % 1073741789 := Int.toNat_of_nonneg (by omega)
/-- a power, for any representative of the exponent -/
theorem powC_of {A : Nat} (ha : vld (A : Int) = true) (hA : A ^ qq % 2147483579 = 1) {n : Int} {m : Nat} (h : (m : Int) % 1073741789 = n % 1073741789) : powC A n = ((A ^ m % 2147483579 : Nat) : Int) := by
  rw [powC_nat ha, pow_red hA m]
  have : (n % 1073741789).toNat = m % 1073741789 := by omega
  rw [this]
theorem pow_add' {a : Int} (ha : vld a = true) (i k : Int) : mulC (powC a i) (powC a k) = powC a (i + k) := by
  have h1 := vld_powC ha i
  have h2 := vld_powC ha k
  obtain ⟨A, rfl, _, _, hA⟩ := nat_vld ha
  rw [powC_of ha hA (n := i + k) (m := (i % 1073741789).toNat + (k % 1073741789).toNat) (by omega)]
  rw [powC_nat ha i] at h1 ⊢
  rw [powC_nat ha k] at h2 ⊢
  rw [mulC_nat h1 h2]
  congr 1
  rw [Nat.pow_add, ← Nat.mul_mod]
theorem pow_mul' {a : Int} (ha : vld a = true) (i k : Int) : powC (powC a i) k = powC a (i * k) := by
  have h1 := vld_powC ha i
  obtain ⟨A, rfl, _, _, hA⟩ := nat_vld ha
  rw [powC_of ha hA (n := i * k) (m := (i % 1073741789).toNat * (k % 1073741789).toNat)
    (by rw [Int.natCast_mul, toNat_emod, toNat_emod, ← Int.mul_emod])]
  rw [powC_nat ha i] at h1 ⊢
  rw [powC_nat h1]
  congr 1
  rw [← Nat.pow_mod, Nat.pow_mul]
theorem mul_pow' {a b : Int} (ha : vld a = true) (hb : vld b = true) (i : Int) : powC (mulC a b) i = mulC (powC a i) (powC b i) := by
  have h1 := vld_powC ha i
  have h2 := vld_powC hb i
  have h3 := vld_mul ha hb
  obtain ⟨A, rfl, _, _, hA⟩ := nat_vld ha
  obtain ⟨B, rfl, _, _, hB⟩ := nat_vld hb
  rw [mulC_nat ha hb] at h3 ⊢
  rw [powC_nat ha i] at h1 ⊢
  rw [powC_nat hb i] at h2 ⊢
  rw [mulC_nat h1 h2, powC_nat h3]
  congr 1
  rw [← Nat.pow_mod, Nat.mul_pow, Nat.mul_mod]
theorem pow_0 {a : Int} (ha : vld a = true) : powC a 0 = 1 := by
  obtain ⟨A, rfl, _, _, hA⟩ := nat_vld ha
  rw [powC_nat ha]; rfl
theorem pow_1 {a : Int} (ha : vld a = true) : powC a 1 = a := by
  obtain ⟨A, rfl, _, h, hA⟩ := nat_vld ha
  rw [powC_nat ha, show ((1 : Int) % 1073741789).toNat = 1 from rfl, Nat.pow_one, Nat.mod_eq_of_lt h]
theorem pow_congr' {a : Int} {i k : Int} (h : i % 1073741789 = k % 1073741789) : powC a i = powC a k := by
  unfold powC; rw [h]
theorem pow_2 {a : Int} (ha : vld a = true) : powC a 2 = mulC a a := by
  have := pow_add' ha 1 1
  rw [pow_1 ha] at this
  exact this.symm
theorem pow_Q {a : Int} (ha : vld a = true) : powC a 1073741789 = 1 := by
  rw [pow_congr' (k := 0) (by omega), pow_0 ha]
theorem mul_inv' {a : Int} (ha : vld a = true) : mulC a (powC a (-1)) = 1 := by
  have := pow_add' ha 1 (-1)
  rw [pow_1 ha] at this
  rw [this]; exact pow_0 ha
theorem mul_mul_inv {a b : Int} (ha : vld a = true) (hb : vld b = true) : mulC (mulC a b) (powC b (-1)) = a := by
  rw [mul_assoc' ha hb (vld_powC hb _), mul_inv' hb, mul_one' ha]

/-! ### of x and P - x exactly one is an element -/
theorem neg_pow_odd (a : Int) : ∀ m : Nat, (-a) ^ (2 * m + 1) = -(a ^ (2 * m + 1))
  | 0 => by rw [show 2 * 0 + 1 = 1 from rfl, Int.pow_succ, Int.pow_succ, Int.pow_zero, Int.pow_zero, Int.one_mul, Int.one_mul]
  | m + 1 => by
    have ih := neg_pow_odd a m
    have e : 2 * (m + 1) + 1 = (2 * m + 1) + 1 + 1 := by omega
    rw [e, Int.pow_succ, Int.pow_succ, Int.pow_succ a (2 * m + 1 + 1), Int.pow_succ a (2 * m + 1), ih]
    simp [Int.neg_mul, Int.mul_neg]
theorem euler_P {A : Nat} (h1 : 1 ≤ A) (h2 : A < 2147483579) : A ^ qq % 2147483579 = 1 ∨ A ^ qq % 2147483579 = 2147483578 := by
  have h := euler (p := 2147483579) (a := A) isP_P (by omega) (by rw [Nat.mod_eq_of_lt h2]; omega)
  rw [show (2147483579 : Nat) / 2 = qq from by rw [qq_eq]] at h
  rw [h]
  cases jac A 2147483579
  · right; rfl
  · left; rfl
theorem opp_pow {A : Nat} (h2 : A < 2147483579) : (A ^ qq % 2147483579 + (2147483579 - A) ^ qq % 2147483579) % 2147483579 = 0 := by
  have e : ((2147483579 - A : Nat) : Int) = 2147483579 + -(A : Int) := by omega
  have h1 : (((2147483579 - A) ^ qq : Nat) : Int) % 2147483579 = (-((A ^ qq : Nat) : Int)) % 2147483579 := by
    have ho := neg_pow_odd (A : Int) 536870894
    rw [show 2 * 536870894 + 1 = qq from qq_eq.symm] at ho
    rw [Int.natCast_pow, Int.natCast_pow, ← ho]
    have hc := Z_congr (p := 2147483579) (f := fun _ => ((2147483579 - A : Nat) : Int)) (g := fun _ => -(A : Int)) qq (fun _ _ => by rw [e, Int.add_emod_left])
    rw [Z_const, Z_const] at hc
    exact hc
  generalize A ^ qq = X at *
  generalize (2147483579 - A) ^ qq = Y at *
  omega
theorem vld_opp {x : Int} (h1 : 1 ≤ x) (h2 : x < 2147483579) : vld (2147483579 - x) = !vld x := by
  obtain ⟨A, rfl⟩ : ∃ A : Nat, x = (A : Int) := ⟨x.toNat, by omega⟩
  have e : (2147483579 - (A : Int)) = ((2147483579 - A : Nat) : Int) := by omega
  have h3 := opp_pow (A := A) (by omega)
  have h4 := euler_P (A := A) (by omega) (by omega)
  have h5 := euler_P (A := 2147483579 - A) (by omega) (by omega)
  rcases h4 with h4 | h4
  · have hv : vld (A : Int) = true := vld_nat h4 (by omega)
    rw [hv, e]
    by_cases hc : vld ((2147483579 - A : Nat) : Int) = true
    · obtain ⟨_, _, hc3⟩ := vld_iff.1 hc
      rw [Int.toNat_natCast] at hc3
      omega
    · simpa using hc
  · have hv : vld (A : Int) = false := by
      by_cases hc : vld (A : Int) = true
      · obtain ⟨_, _, hc3⟩ := vld_iff.1 hc
        rw [Int.toNat_natCast] at hc3
        omega
      · simpa using hc
    rw [hv, e]
    refine vld_nat ?_ (by omega)
    omega
theorem vld_sq {x : Int} (h1 : 1 ≤ x) (h2 : x < 2147483579) : vld (x * x % 2147483579) = true := by
  obtain ⟨A, rfl⟩ : ∃ A : Nat, x = (A : Int) := ⟨x.toNat, by omega⟩
  have e : ((A : Int) * A % 2147483579) = ((A * A % 2147483579 : Nat) : Int) := by simp
  rw [e]
  refine vld_nat ?_ (Nat.mod_lt _ (by omega))
  rw [← Nat.pow_mod, Nat.mul_pow, Nat.mul_mod]
  rcases euler_P (A := A) (by omega) (by omega) with h | h <;> rw [h]
theorem pow_root {x : Int} (hx : vld x = true) : powC (powC x 536870895) 2 = x := by
  rw [pow_mul' hx, pow_congr' (k := 1) (by omega), pow_1 hx]

/-! ### numbers and elements -/
theorem vld_el {n : Int} (h1 : 1 ≤ n) (h2 : n ≤ 1073741789) : vld (elC n) = true := by
  unfold elC
  rw [if_pos ⟨h1, h2⟩]
  by_cases h : vld n = true
  · rw [if_pos h]; exact h
  · rw [if_neg h, vld_opp h1 (by omega)]; simpa using h
theorem num_el {n : Int} (h1 : 1 ≤ n) (h2 : n ≤ 1073741789) : numC (elC n) = n := by
  have hv := vld_el h1 h2
  unfold numC
  rw [if_pos hv]
  have e : elC n = if vld n then n else 2147483579 - n := by unfold elC; exact if_pos ⟨h1, h2⟩
  rw [e]
  by_cases h : vld n = true
  · simp only [h, if_true]; rw [if_pos h2]
  · simp only [h, Bool.false_eq_true, if_false]; rw [if_neg (by omega)]; omega
theorem el_num {x : Int} (hv : vld x = true) : elC (numC x) = x ∧ 1 ≤ numC x ∧ numC x ≤ 1073741789 := by
  have h1 := vld_lo hv
  have h2 := vld_hi hv
  unfold numC
  rw [if_pos hv]
  by_cases h : x ≤ 1073741789
  · rw [if_pos h]
    unfold elC
    rw [if_pos ⟨h1, h⟩, if_pos hv]
    exact ⟨rfl, h1, h⟩
  · rw [if_neg h]
    have h3 : vld (2147483579 - x) = false := by rw [vld_opp h1 h2, hv]; rfl
    unfold elC
    rw [if_pos (by omega), if_neg (by simp [h3])]
    omega
theorem el_inj {n m : Int} (h1 : 1 ≤ n) (h2 : n ≤ 1073741789) (h3 : 1 ≤ m) (h4 : m ≤ 1073741789) (h : elC n = elC m) : n = m := by
  rw [← num_el h1 h2, ← num_el h3 h4, h]
/-- a product of two numbers of 32 bits -/
theorem prod_bounds {m n : Int} (h1 : -2147483648 ≤ m) (h2 : m ≤ 2147483647) (h3 : -2147483648 ≤ n) (h4 : n ≤ 2147483647) : -4611686018427387904 ≤ m * n ∧ m * n ≤ 4611686018427387904 := by
  have a1 : m.natAbs * n.natAbs ≤ 2147483648 * 2147483648 := Nat.mul_le_mul (by omega) (by omega)
  rw [← Int.natAbs_mul] at a1
  omega
theorem sq_boundsI {x : Int} (h1 : 1 ≤ x) (h2 : x < 2147483579) : 0 ≤ x * x ∧ x * x ≤ 4611686018427387904 := by
  have a1 : x.natAbs * x.natAbs ≤ 2147483579 * 2147483579 := Nat.mul_le_mul (by omega) (by omega)
  have a2 : 0 ≤ x * x := Int.mul_nonneg (by omega) (by omega)
  rw [← Int.natAbs_mul] at a1
  omega
end Fk

set_option linter.unusedSimpArgs false
set_option linter.unusedVariables false
namespace Go.Proofs.YtaheibbbdglcmaaDoor
open Go.RowKit Fk Sha
/-- the digest's tables, and that they lie below what is made later -/
def TabOK (w : World) : Prop := Tab w ∧ 1 < w.heap.size ∧ 0 < w.heap.size
theorem TabOK.below {w w' : World} (h : TabOK w) (hb : Below w.heap.size w w') : TabOK w' := by
  have hs := hb.size
  exact ⟨h.1.keep (g := w.heap.size) h.2 (fun b hl => hb.block b hl), by have := h.2.1; omega, by have := h.2.2; omega⟩
def chalN (key a d r s : Int) : Int := hashN (tagged (sb ⟨#[101, 113, 117, 97, 108]⟩) (encL [key, a, d, r, s]))
def nonceN (secret a : Int) : Int := hashN (tagged (sb ⟨#[101, 113, 117, 97, 108, 32, 110, 111, 110, 99, 101]⟩) (encL [secret, a]))
theorem hashN_bd (d : List B) : 0 ≤ hashN d ∧ hashN d < 1073741789 := by
  unfold hashN
  have := Nat.mod_lt (hnum d 8) (show 0 < 1073741789 by omega)
  omega
def sm (x : Int) : Prop := 0 ≤ x ∧ x < 4611686018427387904
theorem small5 {a b c d e : Int} (ha : sm a) (hb : sm b) (hc : sm c) (hd : sm d) (he : sm e) : smallI [a, b, c, d, e] := by
  intro i hi
  simp at hi
  rcases (show i = 0 ∨ i = 1 ∨ i = 2 ∨ i = 3 ∨ i = 4 by omega) with rfl | rfl | rfl | rfl | rfl
  · exact ha
  · exact hb
  · exact hc
  · exact hd
  · exact he
theorem small2 {a b : Int} (ha : sm a) (hb : sm b) : smallI [a, b] := by
  intro i hi
  simp at hi
  rcases (show i = 0 ∨ i = 1 by omega) with rfl | rfl
  · exact ha
  · exact hb
theorem sm_vld {x : Int} (h : vld x = true) : sm x := by have := vld_iff.1 h; exact ⟨by omega, by omega⟩
theorem sl_newI (w : World) (l : List Int) (a : Array Value) (h : (l.flatMap encI).toArray = a) (hl : l.length ≤ 9223372036854775807) (n : Nat) (hn : n = l.length) :
    SlI (w.alloc (.cells a 3)) (w.alloc (.cells a 3)).heap.size (.slice (some ⟨w.heap.size, 0, none⟩) n n) l := by
  subst h; subst hn
  exact (Row.new w 3 (l.flatMap encI)).sl (fun _ => rfl) hl (by simp)
theorem encL_len {l : List Int} (h : smallI l) (hl : l.length ≤ 1000) : (encL l).length ≤ 20000 := by
  unfold encL
  have h1 := encHd_length (n := l.length) (by omega)
  have h2 := flat_length h l.length (Nat.le_refl _)
  rw [List.take_length] at h2
  rw [List.length_append]; omega
set_option maxRecDepth 100000 in
set_option maxHeartbeats 2000000 in
theorem challenge_any (key a d r s : Int) (hk : sm key) (ha : sm a) (hd : sm d) (hr : sm r) (hs : sm s) (w : World) (hT : TabOK w) :
    Calls Tryd.prog 42 #[.int .i64 key, .int .i64 a, .int .i64 d, .int .i64 r, .int .i64 s] w fun e w' => e = .returned (.int .i64 (chalN key a d r s)) ∧ Below w.heap.size w w' := by
  have hsm := small5 hk ha hd hr hs
  have hB0 := below_alloc' w (.cells #[.int .i64 key, .int .i64 a, .int .i64 d, .int .i64 r, .int .i64 s] 3)
  have ht := text_any [key, a, d, r, s] _ _ (sl_newI w [key, a, d, r, s] #[.int .i64 key, .int .i64 a, .int .i64 d, .int .i64 r, .int .i64 s] rfl (by simp) 5 rfl) hsm (by simp) (by simp)
  have hlen := encL_len hsm (by simp)
  have hc : chalN key a d r s = hashN (tagged (sb ⟨#[101, 113, 117, 97, 108]⟩) (encL [key, a, d, r, s])) := rfl
  obtain ⟨L, hL⟩ : ∃ L, encL [key, a, d, r, s] = L := ⟨_, rfl⟩
  rw [hL] at ht hlen hc
  have hh := fun v W h1 h2 h3 => hash_any ⟨#[101, 113, 117, 97, 108]⟩ L v W h1 h2 (by omega) (by decide) (TabOK.below hT h3).1 (TabOK.below hT h3).2
  rw [← hc] at hh
  obtain ⟨E, hE⟩ : ∃ E, chalN key a d r s = E := ⟨_, rfl⟩
  rw [hE] at hh ⊢
  have HT := Lib.hid ht
  have HH := Lib.hid hh
  clear hc hL hE hsm ht hh
  go_enter Tryd.func42, Tryd.ntmps42
  go_wp2_with (first
    | (go_at_call 41; (with_reducible refine HT.out.mono ?_); rintro e w1 ⟨v1, rfl, ho, hb⟩; replace hB0 := hB0.trans (hb.mono hB0.size); obtain ⟨q1, q2⟩ := own_slB ho rfl (by omega))
    | (go_at_call 15; (with_reducible refine (HH.out _ _ q1 q2 hB0).mono ?_); rintro e w2 ⟨rfl, hb2⟩))
  go_ret
  exact ⟨rfl, hB0.trans (hb2.mono hB0.size)⟩
set_option maxRecDepth 100000 in
theorem epow_at (a n : Int) (w : World) :
    Calls Tryd.prog 43 #[.int .i64 a, .int .i64 n] w fun e w' => e = .returned (.int .i64 (powC a n)) ∧ Below w.heap.size w w' := by
  have hm := fun w => pow_any a n w
  obtain ⟨x, hx⟩ : ∃ x, powC a n = x := ⟨_, rfl⟩
  obtain ⟨y, hy⟩ : ∃ y, powE a = y := ⟨_, rfl⟩
  rw [hx, hy] at hm
  rw [hx]
  have HM := Lib.hid hm
  clear hm hx hy
  go_enter Tryd.func43, Tryd.ntmps43
  go_wp2_with (go_at_call 35; (with_reducible refine (HM.out _).mono ?_); rintro e w1 ⟨rfl, hb⟩)
  go_ret
  exact ⟨rfl, hb⟩
end Go.Proofs.YtaheibbbdglcmaaDoor

/-! Letters in plain words: a cipher is two numbers, a letter three ciphers. -/
namespace Fk
open Go
structure Ci where
  a : Int
  b : Int
structure Se where
  x : Ci
  y : Ci
  z : Ci
structure Tr where
  p : Int
  q : Int
  r : Int
instance : Inhabited Ci := ⟨⟨0, 0⟩⟩
instance : Inhabited Se := ⟨⟨default, default, default⟩⟩
instance : Inhabited Tr := ⟨⟨0, 0, 0⟩⟩
def Ci.val (c : Ci) : Value := .agg #[.int .i64 c.a, .int .i64 c.b]
def Se.val (s : Se) : Value := .agg #[.int .i64 s.x.a, .int .i64 s.x.b, .int .i64 s.y.a, .int .i64 s.y.b, .int .i64 s.z.a, .int .i64 s.z.b]
def Tr.val (t : Tr) : Value := .agg #[.int .i64 t.p, .int .i64 t.q, .int .i64 t.r]
def Se.cells (s : Se) : List Value := [.int .i64 s.x.a, .int .i64 s.x.b, .int .i64 s.y.a, .int .i64 s.y.b, .int .i64 s.z.a, .int .i64 s.z.b]
def Tr.cells (t : Tr) : List Value := [.int .i64 t.p, .int .i64 t.q, .int .i64 t.r]
def Se.get (s : Se) (i : Nat) : Ci := if i = 0 then s.x else if i = 1 then s.y else s.z
def Tr.get (t : Tr) (i : Nat) : Int := if i = 0 then t.p else if i = 1 then t.q else t.r
def Se.map (f : Nat → Ci → Ci) (s : Se) : Se := ⟨f 0 s.x, f 1 s.y, f 2 s.z⟩
/-- the first k ciphers changed -/
def Se.mapTo (f : Nat → Ci → Ci) (s : Se) (k : Nat) : Se := ⟨if 0 < k then f 0 s.x else s.x, if 1 < k then f 1 s.y else s.y, if 2 < k then f 2 s.z else s.z⟩
def Tr.map (f : Int → Int) (t : Tr) : Tr := ⟨f t.p, f t.q, f t.r⟩
theorem Se.mapTo_zero (f : Nat → Ci → Ci) (s : Se) : s.mapTo f 0 = s := rfl
theorem Se.mapTo_three (f : Nat → Ci → Ci) (s : Se) : s.mapTo f 3 = s.map f := rfl

/-! ### in form -/
def okC (c : Ci) : Bool := vld c.a && vld c.b
def okS (s : Se) : Bool := okC s.x && (okC s.y && okC s.z)
def chS (s : Se) : Int := if okS s then 0 else 100
theorem okC_iff {c : Ci} : okC c = true ↔ vld c.a = true ∧ vld c.b = true := by simp [okC]
theorem okS_iff {s : Se} : okS s = true ↔ okC s.x = true ∧ okC s.y = true ∧ okC s.z = true := by simp [okS]
theorem okS_get {s : Se} (h : okS s = true) (i : Nat) : okC (s.get i) = true := by
  obtain ⟨h1, h2, h3⟩ := okS_iff.1 h
  unfold Se.get; split
  · exact h1
  · split <;> assumption

/-! ### secrets, keys -/
def secB (n : Int) : Bool := decide (1 ≤ n) && decide (n < 1073741789)
def pubC (n : Int) : Int := if secB n then powC 4 n else 0
def pubE (n : Int) : Int := if secB n then 0 else 110
theorem vld_4' : vld 4 = true := vld_4
theorem pubE_0 {n : Int} (h : secB n = true) : pubE n = 0 := by simp [pubE, h]
theorem powE_4 : powE 4 = 0 := by simp [powE, vld_4]
/-- what is put together of the first keys, as long as all are elements -/
def joinTo (l : List Int) : Option Int := l.foldl (fun o k => match o with
  | some c => if vld c && vld k then some (c * k % 2147483579) else none
  | none => none) (some 1)
def joinC (l : List Int) : Int := (joinTo l).getD 0
def joinE (l : List Int) : Int := if (joinTo l).isSome then 0 else 90
theorem joinTo_snoc (l : List Int) (k : Int) : joinTo (l ++ [k]) = match joinTo l with
  | some c => if vld c && vld k then some (c * k % 2147483579) else none
  | none => none := by
  unfold joinTo; rw [List.foldl_append]; rfl
theorem fold_none : ∀ (l : List Int), l.foldl (fun (o : Option Int) k => match o with
  | some c => if vld c && vld k then some (c * k % 2147483579) else none
  | none => none) none = none
  | [] => rfl
  | _ :: l => fold_none l
theorem joinTo_none {l r : List Int} (h : joinTo l = none) : joinTo (l ++ r) = none := by
  unfold joinTo at *; rw [List.foldl_append, h]; exact fold_none r

/-! ### sealing -/
def moreC (key : Int) (r : Tr) (i : Nat) (c : Ci) : Ci := ⟨c.a * powC 4 (r.get i) % 2147483579, c.b * powC key (r.get i) % 2147483579⟩
def stripC (n : Int) (_ : Nat) (c : Ci) : Ci := ⟨c.a, c.b * powC c.a (-n) % 2147483579⟩
def wOK (w : Tr) : Bool := elE w.p == 0 && (elE w.q == 0 && elE w.r == 0)
def seal0 (w : Tr) : Se := ⟨⟨1, elC w.p⟩, ⟨1, elC w.q⟩, ⟨1, elC w.r⟩⟩
def sealC (key : Int) (w r : Tr) : Se := if vld key && wOK w then (seal0 w).map (moreC key r) else default
def sealE (key : Int) (w : Tr) : Int := if vld key then (if wOK w then 0 else 100) else 90
def againC (key : Int) (s : Se) (r : Tr) : Se := if vld key && okS s then s.map (moreC key r) else default
def againE (key : Int) (s : Se) : Int := if vld key then chS s else 90
def strpC (n : Int) (s : Se) : Se := if secB n && okS s then s.map (stripC n) else default
def strpE (n : Int) (s : Se) : Int := if secB n then chS s else 110
def readC (s : Se) : Tr := if okS s then ⟨numC s.x.b, numC s.y.b, numC s.z.b⟩ else default
theorem elE_iff {n : Int} : (elE n == 0) = true ↔ 1 ≤ n ∧ n ≤ 1073741789 := by
  unfold elE; split <;> simp <;> omega
end Fk

namespace Go.Proofs.YtaheibbbdglcmaaDoor
open Go.RowKit Fk

set_option maxHeartbeats 400000 in
theorem secret_any (n : Int) (w : World) :
    Calls Tryd.prog 54 #[.int .i64 n] w fun e w' => e = .returned (.bool (secB n)) ∧ w = w' := by
  unfold secB
  by_cases h1 : 1 ≤ n
  · go_enter Tryd.func54, Tryd.ntmps54
    go_wp2
    go_ret
    exact ⟨by simp [h1], rfl⟩
  · have h2 : n < 1 := by omega
    have h3 : decide (1 ≤ n) = false := by simpa using h1
    clear h1
    go_enter Tryd.func54, Tryd.ntmps54
    go_wp2
    go_ret
    exact ⟨by simp [h3], rfl⟩

set_option maxHeartbeats 400000 in
theorem public_any (n : Int) (w : World) :
    Calls Tryd.prog 26 #[.int .i64 n] w fun e w' => e = .returned (.tuple #[.int .i64 (pubC n), .int .i64 (pubE n)]) ∧ Below w.heap.size w w' := by
  have hB : Below w.heap.size w w := Below.refl _ _
  cases hs : secB n with
  | true =>
    have e1 : pubC n = powC 4 n := by simp [pubC, hs]
    have e2 : pubE n = 0 := by simp [pubE, hs]
    rw [e1, e2]
    clear e1 e2
    have hp := fun w => pow_any 4 n w
    rw [powE_4] at hp
    generalize powC 4 n = p at *
    have HP := Lib.hid hp
    clear hp
    go_enter Tryd.func26, Tryd.ntmps26
    go_wp2_with (first | (go_at_call 54; refine (secret_any _ _).mono ?_; rintro e w1 ⟨rfl, rfl⟩) | (go_at_call 35; refine (HP.out _).mono ?_; rintro e w1 ⟨rfl, hb⟩))
    go_ret2
    exact ⟨rfl, hb⟩
  | false =>
    have e1 : pubC n = 0 := by simp [pubC, hs]
    have e2 : pubE n = 110 := by simp [pubE, hs]
    rw [e1, e2]
    clear e1 e2
    go_enter Tryd.func26, Tryd.ntmps26
    go_wp2_with (go_at_call 54; refine (secret_any _ _).mono ?_; rintro e w1 ⟨rfl, rfl⟩)
    go_ret2
    exact ⟨rfl, hB⟩

theorem mul_sm {x y : Int} (h : 0 ≤ x ∧ x < 2147483579) (h' : 0 ≤ y ∧ y < 2147483579) : 0 ≤ x * y ∧ x * y ≤ 2147483579 * 2147483579 :=
  ⟨Int.mul_nonneg (by omega) (by omega), Int.mul_le_mul (by omega) (by omega) (by omega) (by omega)⟩

set_option maxHeartbeats 400000 in
theorem times_two (x y : Int) (hx : 0 ≤ x ∧ x < 2147483579) (hy : 0 ≤ y ∧ y < 2147483579) (b : Nat) (w : World) (h0 : w.cell? ⟨b, 0, none⟩ = some (.int .i64 x)) (h1 : w.cell? ⟨b, 1, none⟩ = some (.int .i64 y)) :
    Calls Tryd.prog 63 #[.slice (some ⟨b, 0, none⟩) 2 2] w fun e w' => e = .returned (.int .i64 (x * y % 2147483579)) ∧ w = w' := by
  have m := mul_sm hx hy
  have e1 : x % 2147483579 = x := Int.emod_eq_of_lt hx.1 hx.2
  obtain ⟨hx1, hx2⟩ := hx
  obtain ⟨hy1, hy2⟩ := hy
  go_enter Tryd.func63, Tryd.ntmps63
  go_wp2
  refine wp_loop_rounds 3 ?_
  rw [rounds_succ]
  go_wp2
  rw [rounds_succ]
  go_wp2
  rw [rounds_succ]
  go_wp2
  go_ret
  exact ⟨rfl, rfl⟩
set_option maxHeartbeats 400000 in
theorem epow_any (a n : Int) (w : World) :
    Calls Tryd.prog 64 #[.int .i64 a, .int .i64 n] w fun e w' => e = .returned (.int .i64 (powC a n)) ∧ Below w.heap.size w w' := by
  generalize hp : powC a n = p
  generalize hq : powE a = q
  have hP := fun w => pow_any a n w
  rw [hp, hq] at hP
  have HP := Lib.hid hP
  clear hP hp hq
  go_enter Tryd.func64, Tryd.ntmps64
  go_wp2_with (go_at_call 35; refine (HP.out _).mono ?_; rintro e w1 ⟨rfl, hb⟩)
  go_ret
  exact ⟨rfl, hb⟩
end Go.Proofs.YtaheibbbdglcmaaDoor

set_option linter.unusedSimpArgs false
set_option linter.unusedVariables false
namespace Go.Proofs.YtaheibbbdglcmaaDoor
open Go.RowKit Fk Sha
def mulL (l : List Int) : Int := l.foldl mulC 1
theorem mulL_snoc {l : List Int} {k : Nat} (h : k < l.length) : mulL (l.take (k + 1)) = mulC (mulL (l.take k)) (l.getD k default) := by
  unfold mulL
  rw [List.take_add_one, List.foldl_append, List.getElem?_eq_getElem h, List.getD_eq_getElem?_getD, List.getElem?_eq_getElem h]
  rfl
set_option maxRecDepth 100000 in
set_option maxHeartbeats 2000000 in
theorem emul_any (l : List Int) (v : Value) (w : World) (B0 : Nat) (h : SlI w B0 v l) :
    Calls Tryd.prog 52 #[v] w fun e w' => e = .returned (.int .i64 (mulL l)) ∧ w = w' := by
  have HS := Lib.hid h
  obtain ⟨hlen, A, c, rfl, _⟩ := h
  go_enter Tryd.func52, Tryd.ntmps52
  go_wp2_with fail
  go_loopg [3, 8] l.length (fun g c iv wr => w = wr ∧ ∃ k : Nat, iv = .int .i64 k ∧ k + g = l.length ∧ c = .int .i64 (mulL (l.take k)))
  case atStart => exact ⟨rfl, 0, rfl, by omega, rfl⟩
  case round =>
    obtain ⟨rfl, k, rfl, hkg, rfl⟩ := hrel
    by_cases hlt : k < l.length
    · obtain ⟨_, A', c', hv, hE⟩ := HS.out
      obtain ⟨b, off, rfl, hb, hE⟩ := hE (by omega)
      cases hv
      have d1 := hE.int hlt
      have hsn := mulL_snoc hlt
      obtain ⟨x, hx⟩ : ∃ x, l.getD k default = x := ⟨_, rfl⟩
      obtain ⟨c0, hc0⟩ : ∃ c0, mulL (l.take k) = c0 := ⟨_, rfl⟩
      rw [hx] at d1 hsn
      rw [hc0] at hsn ⊢
      have hm := fun w => mul_any c0 x w
      rw [← hsn] at hm
      obtain ⟨c1, hc1⟩ : ∃ c1, mulL (l.take (k + 1)) = c1 := ⟨_, rfl⟩
      obtain ⟨e1, he1⟩ : ∃ e1, mulE c0 x = e1 := ⟨_, rfl⟩
      rw [hc1, he1] at hm
      have HC1 := Lib.hid hc1
      have HM := Lib.hid hm
      have s1 : (0 : Int) ≤ k := by omega
      have s2 : (k : Int) < l.length := by omega
      clear hm hc1 he1 hsn hx hE hc0
      go_wp2_with (go_at_call 36; (with_reducible refine (HM.out _).mono ?_); rintro e w1 ⟨rfl, rfl⟩)
      go_roundg (gk - 1)
      case measure => omega
      case rel => exact ⟨rfl, k + 1, by first | rfl | go_num, by omega, by rw [HC1.out]⟩
    · obtain rfl : k = l.length := by omega
      rw [List.take_length]
      obtain ⟨c0, hc0⟩ : ∃ c0, mulL l = c0 := ⟨_, rfl⟩
      rw [hc0]
      go_wp2_with fail
      go_ret
      exact ⟨congrArg (fun x => Ending.returned (.int .i64 x)) hc0.symm, rfl⟩
theorem st2 {W : World} {b : Nat} {t : TypeId} {a0 a1 : Value} (h : Row W b t [a0, a1]) : W.cell? ⟨b, 0, none⟩ = some a0 ∧ W.cell? ⟨b, 1, none⟩ = some a1 := ⟨Row.cell h 0, Row.cell h 1⟩
/-! proofs -/
structure Pf where
  e : Int
  s : Int
instance : Inhabited Pf := ⟨⟨0, 0⟩⟩
def Pf.val (p : Pf) : Value := .agg #[.int .i64 p.e, .int .i64 p.s]
def nonceK (n a : Int) : Int := if nonceN n a = 0 then 1 else nonceN n a
def provP (n a : Int) : Pf :=
  let k := nonceK n a
  let e := chalN (powC 4 n) a (powC a n) (powC 4 k) (powC a k)
  ⟨e, (k + e * n) % 1073741789⟩
def provOK (n a : Int) : Bool := secB n && vld a
def provE (n a : Int) : Int := if secB n then (if vld a then 0 else 90) else 110
def provD (n a : Int) : Int := if provOK n a then powC a n else 0
def provR (n a : Int) : Pf := if provOK n a then provP n a else default
set_option maxRecDepth 100000 in
set_option maxHeartbeats 2000000 in
theorem prove_sec (n a : Int) (h : secB n = false) (w : World) :
    Calls Tryd.prog 19 #[.int .i64 n, .int .i64 a] w fun e w' => e = .returned (.tuple #[.int .i64 0, .agg #[.int .i64 0, .int .i64 0], .int .i64 110]) ∧ Below w.heap.size w w' := by
  have hp := fun w => public_any n w
  rw [show pubC n = 0 by unfold pubC; rw [h]; rfl, show pubE n = 110 by unfold pubE; rw [h]; rfl] at hp
  have HP := Lib.hid hp
  clear hp
  have r0 := Row.new w 34 [.int .i64 0, .int .i64 0]
  have hB := below_alloc' w (.cells #[.int .i64 0, .int .i64 0] 34)
  have hz : w.heap.size < (w.alloc (.cells #[.int .i64 0, .int .i64 0] 34)).heap.size := by simp
  go_enter Tryd.func19, Tryd.ntmps19
  go_upto_region 3 with (go_at_call 26; (with_reducible refine (HP.out _).mono ?_); rintro e w1 ⟨rfl, hb⟩; replace r0 := r0.below hb hz; replace hB := hB.trans (hb.mono hB.size))
  obtain ⟨c0, c1⟩ := st2 r0
  have y0 := r0.frozen 0
  have y1 := r0.frozen 1
  have hz1 := r0.lt
  go_region
  all_goals
    go_wp2_with fail
    have r1 := Row.store (Row.store r0 0 (.int .i64 0)) 1 (.int .i64 0)
    obtain ⟨p0, p1⟩ := st2 (Row.keep (w' := ((w1.setCell ⟨w.heap.size, 0, none⟩ (.int .i64 0)).setCell ⟨w.heap.size, 1, none⟩ (.int .i64 0)).drew) r1 rfl)
    have hB6 := ((hB.setCell (p := ⟨w.heap.size, 0, none⟩) (Nat.le_refl _) (.int .i64 0)).setCell (p := ⟨w.heap.size, 1, none⟩) (Nat.le_refl _) (.int .i64 0)).drew
    exact bodyPost_ret (v := .tuple #[.int .i64 0, .agg #[.int .i64 0, .int .i64 0], .int .i64 110]) (by simp [results, Tryd.results19, go_sem, p0, p1]) rfl ⟨rfl, hB6⟩
set_option maxRecDepth 100000 in
set_option maxHeartbeats 2000000 in
theorem prove_elt (n a : Int) (h : secB n = true) (hv : vld a = false) (w : World) :
    Calls Tryd.prog 19 #[.int .i64 n, .int .i64 a] w fun e w' => e = .returned (.tuple #[.int .i64 0, .agg #[.int .i64 0, .int .i64 0], .int .i64 90]) ∧ Below w.heap.size w w' := by
  have hp := fun w => public_any n w
  have hq := fun w => pow_any a n w
  rw [pubE_0 h] at hp
  rw [show powC a n = 0 by unfold powC; rw [hv]; rfl, show powE a = 90 by unfold powE; rw [hv]; rfl] at hq
  obtain ⟨k, hk⟩ : ∃ k, pubC n = k := ⟨_, rfl⟩
  rw [hk] at hp
  have HP := Lib.hid hp
  have HQ := Lib.hid hq
  clear hp hq hk
  have r0 := Row.new w 34 [.int .i64 0, .int .i64 0]
  have hB := below_alloc' w (.cells #[.int .i64 0, .int .i64 0] 34)
  have hz : w.heap.size < (w.alloc (.cells #[.int .i64 0, .int .i64 0] 34)).heap.size := by simp
  go_enter Tryd.func19, Tryd.ntmps19
  go_upto_region 6 with (first
    | (go_at_call 26; (with_reducible refine (HP.out _).mono ?_); rintro e w1 ⟨rfl, hb⟩; replace r0 := r0.below hb hz; replace hB := hB.trans (hb.mono hB.size); replace hz := r0.lt; clear hb)
    | (go_at_call 35; (with_reducible refine (HQ.out _).mono ?_); rintro e w2 ⟨rfl, hb⟩; replace r0 := r0.below hb hz; replace hB := hB.trans (hb.mono hB.size); replace hz := r0.lt; clear hb))
  obtain ⟨c0, c1⟩ := st2 r0
  have y0 := r0.frozen 0
  have y1 := r0.frozen 1
  have hz1 := r0.lt
  go_region
  all_goals
    go_wp2_with fail
    have r1 := Row.store (Row.store r0 0 (.int .i64 0)) 1 (.int .i64 0)
    obtain ⟨p0, p1⟩ := st2 (Row.keep (w' := ((w2.setCell ⟨w.heap.size, 0, none⟩ (.int .i64 0)).setCell ⟨w.heap.size, 1, none⟩ (.int .i64 0)).drew) r1 rfl)
    have hB6 := ((hB.setCell (p := ⟨w.heap.size, 0, none⟩) (Nat.le_refl _) (.int .i64 0)).setCell (p := ⟨w.heap.size, 1, none⟩) (Nat.le_refl _) (.int .i64 0)).drew
    exact bodyPost_ret (v := .tuple #[.int .i64 0, .agg #[.int .i64 0, .int .i64 0], .int .i64 90]) (by simp [results, Tryd.results19, go_sem, p0, p1]) rfl ⟨rfl, hB6⟩
set_option maxRecDepth 100000 in
set_option maxHeartbeats 4000000 in
theorem prove_ok (n a : Int) (h : secB n = true) (hv : vld a = true) (w : World) (hT : TabOK w) :
    Calls Tryd.prog 19 #[.int .i64 n, .int .i64 a] w fun e w' => e = .returned (.tuple #[.int .i64 (powC a n), (provP n a).val, .int .i64 0]) ∧ Below w.heap.size w w' := by
  have hp := fun w => public_any n w
  have hq := fun w => pow_any a n w
  rw [pubE_0 h, show pubC n = powC 4 n by unfold pubC; rw [if_pos h]] at hp
  rw [show powE a = 0 by unfold powE; rw [if_pos hv]] at hq
  have hn : 1 ≤ n ∧ n < 1073741789 := by unfold secB at h; simpa using h
  have hsm := small2 (a := n) (b := a) ⟨by omega, by omega⟩ (sm_vld hv)
  have hlen := encL_len hsm (by simp)
  have hnb := hashN_bd (tagged (sb ⟨#[101, 113, 117, 97, 108, 32, 110, 111, 110, 99, 101]⟩) (encL [n, a]))
  have hnd : nonceN n a = hashN (tagged (sb ⟨#[101, 113, 117, 97, 108, 32, 110, 111, 110, 99, 101]⟩) (encL [n, a])) := rfl
  have htx := fun W (hb : Below w.heap.size w W) => text_any [n, a] _ _ (sl_newI W [n, a] #[.int .i64 n, .int .i64 a] rfl (by simp) 2 rfl) hsm (by simp) (by simp)
  obtain ⟨L, hL⟩ : ∃ L, encL [n, a] = L := ⟨_, rfl⟩
  rw [hL] at htx hlen hnd hnb
  have hh := fun v W h1 h2 h3 => hash_any ⟨#[101, 113, 117, 97, 108, 32, 110, 111, 110, 99, 101]⟩ L v W h1 h2 (by omega) (by decide) (TabOK.below hT h3).1 (TabOK.below hT h3).2
  rw [← hnd] at hh hnb
  have hch := fun (r s : Int) (hr : vld r = true) (hs : vld s = true) (W : World) (hb : Below w.heap.size w W) => challenge_any (powC 4 n) a (powC a n) r s (sm_vld (vld_powC vld_4 n)) (sm_vld hv) (sm_vld (vld_powC hv n)) (sm_vld hr) (sm_vld hs) W (TabOK.below hT hb)
  have hpp : provP n a = ⟨chalN (powC 4 n) a (powC a n) (powC 4 (nonceK n a)) (powC a (nonceK n a)), (nonceK n a + chalN (powC 4 n) a (powC a n) (powC 4 (nonceK n a)) (powC a (nonceK n a)) * n) % 1073741789⟩ := rfl
  have hcb := hashN_bd (tagged (sb ⟨#[101, 113, 117, 97, 108]⟩) (encL [powC 4 n, a, powC a n, powC 4 (nonceK n a), powC a (nonceK n a)]))
  replace hcb : 0 ≤ chalN (powC 4 n) a (powC a n) (powC 4 (nonceK n a)) (powC a (nonceK n a)) ∧ chalN (powC 4 n) a (powC a n) (powC 4 (nonceK n a)) (powC a (nonceK n a)) < 1073741789 := hcb
  have hkk : nonceK n a = if nonceN n a = 0 then 1 else nonceN n a := rfl
  have hch2 := hch (powC 4 (nonceK n a)) (powC a (nonceK n a)) (vld_powC vld_4 _) (vld_powC hv _)
  have he1 := fun w => epow_at 4 (nonceK n a) w
  have he2 := fun w => epow_at a (nonceK n a) w
  obtain ⟨E, hE⟩ : ∃ E, chalN (powC 4 n) a (powC a n) (powC 4 (nonceK n a)) (powC a (nonceK n a)) = E := ⟨_, rfl⟩
  rw [hE] at hpp hcb hch2
  obtain ⟨N, hN⟩ : ∃ N, nonceN n a = N := ⟨_, rfl⟩
  rw [hN] at hh hkk hnb
  obtain ⟨k, hk⟩ : ∃ k, nonceK n a = k := ⟨_, rfl⟩
  rw [hk] at hpp hkk hch2 he1 he2
  rw [hpp]
  obtain ⟨X, hX⟩ : ∃ X, powC 4 n = X := ⟨_, rfl⟩
  obtain ⟨D, hD⟩ : ∃ D, powC a n = D := ⟨_, rfl⟩
  obtain ⟨R, hR⟩ : ∃ R, powC 4 k = R := ⟨_, rfl⟩
  obtain ⟨Z, hZ⟩ : ∃ Z, powC a k = Z := ⟨_, rfl⟩
  rw [hX] at hp hch2
  rw [hD] at hq hch2 ⊢
  rw [hR] at he1 hch2
  rw [hZ] at he2 hch2
  have hkb : 1 ≤ k ∧ k < 1073741789 := by rw [hkk]; split <;> omega
  have hmx : (if N < 1 then (1 : Int) else N) = k := by rw [hkk]; split <;> split <;> omega
  have hmx2 : (if (1 : Int) < N then N else 1) = k := by rw [hkk]; split <;> split <;> omega
  have hEn : 0 ≤ E * n ∧ E * n ≤ 1073741789 * 1073741789 := ⟨Int.mul_nonneg hcb.1 (by omega), Int.mul_le_mul (by omega) (by omega) (by omega) (by omega)⟩
  obtain ⟨M, hM⟩ : ∃ M, E * n = M := ⟨_, rfl⟩
  rw [hM] at hEn ⊢
  have HP := Lib.hid hp
  have HQ := Lib.hid hq
  have HTX := Lib.hid htx
  have HH := Lib.hid hh
  have HC := Lib.hid hch2
  have HE1 := Lib.hid he1
  have HE2 := Lib.hid he2
  have HLN := Lib.hid hlen
  clear hp hq htx hh hch hch2 hsm hnd hpp hE hN hX hD hR hZ hL hk hkk he1 he2 hlen hT
  unfold Pf.val
  have r0 := Row.new w 34 [.int .i64 0, .int .i64 0]
  have hB := below_alloc' w (.cells #[.int .i64 0, .int .i64 0] 34)
  have hz : w.heap.size < (w.alloc (.cells #[.int .i64 0, .int .i64 0] 34)).heap.size := by simp
  go_enter Tryd.func19, Tryd.ntmps19
  go_upto_region 8 with (first
    | (go_at_call 26; (with_reducible refine (HP.out _).mono ?_); rintro e w1 ⟨rfl, hb⟩; replace r0 := r0.below hb hz; replace hB := hB.trans (hb.mono hB.size); replace hz := r0.lt; clear hb)
    | (go_at_call 35; (with_reducible refine (HQ.out _).mono ?_); rintro e w2 ⟨rfl, hb⟩; replace r0 := r0.below hb hz; replace hB := hB.trans (hb.mono hB.size); replace hz := r0.lt; clear hb)
    | (go_at_call 41; (with_reducible refine (HTX.out _ hB).mono ?_); rintro e w3 ⟨v3, rfl, ho, hb⟩; obtain ⟨q1, q2⟩ := own_slB ho rfl (by have := HLN.out; omega); replace r0 := (r0.alloc (.cells #[.int .i64 n, .int .i64 a] 3)).below hb (by simp; omega); replace hB := (hB.alloc hB.size (.cells #[.int .i64 n, .int .i64 a] 3)).trans (hb.mono (by have := hB.size; simp; omega)); replace hz := r0.lt; clear hb ho)
    | (go_at_call 15; (with_reducible refine (HH.out _ _ q1 q2 hB).mono ?_); rintro e w4 ⟨rfl, hb⟩; replace r0 := r0.below hb hz; replace hB := hB.trans (hb.mono hB.size); replace hz := r0.lt; clear hb q1 q2))
  go_upto_region 9 with (first
    | (go_at_call 43; (with_reducible refine (HE1.out _).mono ?_); rintro e w5 ⟨rfl, hb⟩; replace r0 := r0.below hb hz; replace hB := hB.trans (hb.mono hB.size); replace hz := r0.lt; clear hb)
    | (go_at_call 43; (with_reducible refine (HE2.out _).mono ?_); rintro e w6 ⟨rfl, hb⟩; replace r0 := r0.below hb hz; replace hB := hB.trans (hb.mono hB.size); replace hz := r0.lt; clear hb)
    | (go_at_call 42; (with_reducible refine (HC.out _ hB).mono ?_); rintro e w7 ⟨rfl, hb⟩; replace r0 := r0.below hb hz; replace hB := hB.trans (hb.mono hB.size); replace hz := r0.lt; clear hb; obtain ⟨c0, c1⟩ := st2 r0; have y0 := r0.frozen 0))
  have r8 : Row (w7.setCell ⟨w.heap.size, 0, none⟩ (.int .i64 E)) w.heap.size 34 [.int .i64 E, .int .i64 0] := Row.store r0 0 (.int .i64 E)
  have hB8 := hB.setCell (p := ⟨w.heap.size, 0, none⟩) (Nat.le_refl _) (.int .i64 E)
  generalize w7.setCell ⟨w.heap.size, 0, none⟩ (.int .i64 E) = W8 at *
  clear r0 hB hz c0 c1 y0
  obtain ⟨c0, c1⟩ := st2 r8
  have y1 := r8.frozen 1
  have hw1 : IntKind.i64.wrap (E * n) = M := by rw [hM]; exact IntWalk.i64_in _ (by omega)
  have hw2 : IntKind.i64.wrap (k + M) = k + M := IntWalk.i64_in _ (by omega)
  have hz8 := r8.lt
  go_upto_region 10 with fail
  have r9 : Row (W8.setCell ⟨w.heap.size, 1, none⟩ (.int .i64 ((k + M) % 1073741789))) w.heap.size 34 [.int .i64 E, .int .i64 ((k + M) % 1073741789)] := Row.store r8 1 _
  have hB9 := hB8.setCell (p := ⟨w.heap.size, 1, none⟩) (Nat.le_refl _) (.int .i64 ((k + M) % 1073741789))
  generalize W8.setCell ⟨w.heap.size, 1, none⟩ (.int .i64 ((k + M) % 1073741789)) = W9 at *
  obtain ⟨S, hS⟩ : ∃ S, (k + M) % 1073741789 = S := ⟨_, rfl⟩
  rw [hS] at r9 ⊢
  have HSS := Lib.hid hS
  clear hS
  clear r8 hB8 hz8 c0 c1 y1
  obtain ⟨c0, c1⟩ := st2 r9
  have y0 := r9.frozen 0
  have y1 := r9.frozen 1
  have hz9 := r9.lt
  go_region
  all_goals
    go_wp2_with fail
    have r1 := Row.store (Row.store r9 0 (.int .i64 E)) 1 (.int .i64 S)
    obtain ⟨p0, p1⟩ := st2 (Row.keep (w' := ((W9.setCell ⟨w.heap.size, 0, none⟩ (.int .i64 E)).setCell ⟨w.heap.size, 1, none⟩ (.int .i64 S)).drew) r1 rfl)
    have hB6 := ((hB9.setCell (p := ⟨w.heap.size, 0, none⟩) (Nat.le_refl _) (.int .i64 E)).setCell (p := ⟨w.heap.size, 1, none⟩) (Nat.le_refl _) (.int .i64 S)).drew
    exact bodyPost_ret (v := .tuple #[.int .i64 D, .agg #[.int .i64 E, .int .i64 S], .int .i64 0]) (by simp [results, Tryd.results19, go_sem, p0, p1]) rfl ⟨by rw [HSS.out], hB6⟩
theorem prove_any (n a : Int) (w : World) (hT : TabOK w) :
    Calls Tryd.prog 19 #[.int .i64 n, .int .i64 a] w fun e w' => e = .returned (.tuple #[.int .i64 (provD n a), (provR n a).val, .int .i64 (provE n a)]) ∧ Below w.heap.size w w' := by
  unfold provD provR provE provOK
  cases h : secB n with
  | false => exact prove_sec n a h w
  | true =>
    cases hv : vld a with
    | false => exact prove_elt n a h hv w
    | true => exact prove_ok n a h hv w hT
end Go.Proofs.YtaheibbbdglcmaaDoor

set_option linter.unusedSimpArgs false
set_option linter.unusedVariables false
namespace Go.Proofs.YtaheibbbdglcmaaDoor
open Go.RowKit Fk Sha
def inO (n : Int) : Bool := decide (0 ≤ n) && decide (n < 1073741789)
def comR (key : Int) (p : Pf) : Int := mulC (powC 4 p.s) (powC key (-p.e))
def comS (a d : Int) (p : Pf) : Int := mulC (powC a p.s) (powC d (-p.e))
def frm (key a d : Int) (p : Pf) : Bool := (vld key && (vld a && vld d)) && (inO p.e && inO p.s)
def chkB (key a d : Int) (p : Pf) : Bool := frm key a d p && decide (p.e = chalN key a d (comR key p) (comS a d p))
set_option maxRecDepth 100000 in
theorem inOrder_any (n : Int) (w : World) :
    Calls Tryd.prog 50 #[.int .i64 n] w fun e w' => e = .returned (.bool (inO n)) ∧ w = w' := by
  unfold inO
  by_cases h0 : 0 ≤ n
  · by_cases h1 : n < 1073741789
    · rw [decide_eq_true h0, decide_eq_true h1]
      go_enter Tryd.func50, Tryd.ntmps50
      go_wp2_with fail
      go_ret
      exact ⟨rfl, rfl⟩
    · rw [decide_eq_true h0, decide_eq_false h1]
      go_enter Tryd.func50, Tryd.ntmps50
      go_wp2_with fail
      go_ret
      exact ⟨rfl, rfl⟩
  · rw [decide_eq_false h0, Bool.false_and]
    go_enter Tryd.func50, Tryd.ntmps50
    go_wp2_with fail
    go_ret
    exact ⟨rfl, rfl⟩
set_option maxRecDepth 100000 in
theorem check1_any (key a d : Int) (bk ba bd : Nat) (w : World) (hk : w.cell? ⟨bk, 0, none⟩ = some (.int .i64 key)) (ha : w.cell? ⟨ba, 0, none⟩ = some (.int .i64 a)) (hd : w.cell? ⟨bd, 0, none⟩ = some (.int .i64 d)) :
    Calls Tryd.prog 48 #[.pointer (some ⟨bk, 0, none⟩), .pointer (some ⟨ba, 0, none⟩), .pointer (some ⟨bd, 0, none⟩)] w fun e w' => e = .returned (.bool (vld key && (vld a && vld d))) ∧ w = w' := by
  have q1 := fun w => valid_any key w
  have q2 := fun w => valid_any a w
  have q3 := fun w => valid_any d w
  obtain ⟨x, hx⟩ : ∃ x, vld key = x := ⟨_, rfl⟩
  obtain ⟨y, hy⟩ : ∃ y, vld a = y := ⟨_, rfl⟩
  obtain ⟨z, hz⟩ : ∃ z, vld d = z := ⟨_, rfl⟩
  rw [hx] at q1 ⊢
  rw [hy] at q2 ⊢
  rw [hz] at q3 ⊢
  have Q1 := Lib.hid q1
  have Q2 := Lib.hid q2
  have Q3 := Lib.hid q3
  clear q1 q2 q3 hx hy hz
  cases x <;> cases y <;> cases z
  all_goals
    go_enter Tryd.func48, Tryd.ntmps48
    go_wp2_with (first
      | (go_at_call 37; (with_reducible refine (Q1.out _).mono ?_); rintro e w1 ⟨rfl, rfl⟩)
      | (go_at_call 37; (with_reducible refine (Q2.out _).mono ?_); rintro e w1 ⟨rfl, rfl⟩)
      | (go_at_call 37; (with_reducible refine (Q3.out _).mono ?_); rintro e w1 ⟨rfl, rfl⟩))
    go_ret
    exact ⟨rfl, rfl⟩
set_option maxRecDepth 100000 in
theorem check2_any (p : Pf) (bp : Nat) (w : World) (h0 : w.cell? ⟨bp, 0, none⟩ = some (.int .i64 p.e)) (h1 : w.cell? ⟨bp, 1, none⟩ = some (.int .i64 p.s)) :
    Calls Tryd.prog 49 #[.pointer (some ⟨bp, 0, none⟩)] w fun e w' => e = .returned (.bool (inO p.e && inO p.s)) ∧ w = w' := by
  have q1 := fun w => inOrder_any p.e w
  have q2 := fun w => inOrder_any p.s w
  obtain ⟨x, hx⟩ : ∃ x, inO p.e = x := ⟨_, rfl⟩
  obtain ⟨y, hy⟩ : ∃ y, inO p.s = y := ⟨_, rfl⟩
  rw [hx] at q1 ⊢
  rw [hy] at q2 ⊢
  have Q1 := Lib.hid q1
  have Q2 := Lib.hid q2
  clear q1 q2 hx hy
  cases x <;> cases y
  all_goals
    go_enter Tryd.func49, Tryd.ntmps49
    go_wp2_with (first
      | (go_at_call 50; (with_reducible refine (Q1.out _).mono ?_); rintro e w1 ⟨rfl, rfl⟩)
      | (go_at_call 50; (with_reducible refine (Q2.out _).mono ?_); rintro e w1 ⟨rfl, rfl⟩))
    go_ret
    exact ⟨rfl, rfl⟩
end Go.Proofs.YtaheibbbdglcmaaDoor

set_option linter.unusedSimpArgs false
set_option linter.unusedVariables false
namespace Go.Proofs.YtaheibbbdglcmaaDoor
open Go.RowKit Fk Sha
theorem mulL_two {x y : Int} (hx : vld x = true) : mulL [x, y] = mulC x y := by
  unfold mulL
  rw [List.foldl_cons, List.foldl_cons, List.foldl_nil, one_mul' hx]
theorem emul_two {x y : Int} (hx : vld x = true) (W : World) :
    Calls Tryd.prog 52 #[.slice (some ⟨W.heap.size, 0, none⟩) 2 2] (W.alloc (.cells #[.int .i64 x, .int .i64 y] 3)) fun e w' => e = .returned (.int .i64 (mulC x y)) ∧ Below W.heap.size W w' := by
  have h := emul_any [x, y] _ _ _ (sl_newI W [x, y] #[.int .i64 x, .int .i64 y] rfl (by simp) 2 rfl)
  rw [mulL_two hx] at h
  exact h.mono fun e w' ⟨h1, h2⟩ => ⟨h1, h2 ▸ below_alloc' _ _⟩
set_option maxRecDepth 100000 in
set_option maxHeartbeats 4000000 in
theorem check3_any (key a d : Int) (p : Pf) (hk : vld key = true) (ha : vld a = true) (hd : vld d = true) (bp bk ba bd : Nat) (w : World) (hT : TabOK w)
    (hp : bp < w.heap.size ∧ bk < w.heap.size ∧ ba < w.heap.size ∧ bd < w.heap.size) (h : w.cell? ⟨bp, 0, none⟩ = some (.int .i64 p.e) ∧ w.cell? ⟨bp, 1, none⟩ = some (.int .i64 p.s) ∧ w.cell? ⟨bk, 0, none⟩ = some (.int .i64 key) ∧ w.cell? ⟨ba, 0, none⟩ = some (.int .i64 a) ∧ w.cell? ⟨bd, 0, none⟩ = some (.int .i64 d)) (hpe : inO p.e = true) :
    Calls Tryd.prog 51 #[.pointer (some ⟨bp, 0, none⟩), .pointer (some ⟨bk, 0, none⟩), .pointer (some ⟨ba, 0, none⟩), .pointer (some ⟨bd, 0, none⟩)] w fun e w' => e = .returned (.bool (decide (p.e = chalN key a d (comR key p) (comS a d p)))) ∧ Below w.heap.size w w' := by
  have hc5 : ∀ W, Below w.heap.size w W → W.cell? ⟨bp, 0, none⟩ = some (.int .i64 p.e) ∧ W.cell? ⟨bp, 1, none⟩ = some (.int .i64 p.s) ∧ W.cell? ⟨bk, 0, none⟩ = some (.int .i64 key) ∧ W.cell? ⟨ba, 0, none⟩ = some (.int .i64 a) ∧ W.cell? ⟨bd, 0, none⟩ = some (.int .i64 d) := fun W hb =>
    ⟨(hb.cell hp.1).trans h.1, (hb.cell hp.1).trans h.2.1, (hb.cell hp.2.1).trans h.2.2.1, (hb.cell hp.2.2.1).trans h.2.2.2.1, (hb.cell hp.2.2.2).trans h.2.2.2.2⟩
  have hw : IntKind.i64.wrap (-p.e) = -p.e := by
    unfold inO at hpe
    simp only [Bool.and_eq_true, decide_eq_true_eq] at hpe
    exact IntWalk.i64_in _ (by omega)
  have m1 := fun w => epow_at 4 p.s w
  have m2 := fun w => epow_at key (-p.e) w
  have m3 := fun W => emul_two (y := powC key (-p.e)) (vld_powC vld_4 p.s) W
  have m4 := fun w => epow_at a p.s w
  have m5 := fun w => epow_at d (-p.e) w
  have m6 := fun W => emul_two (y := powC d (-p.e)) (vld_powC ha p.s) W
  have hv1 : vld (comR key p) = true := vld_mul (vld_powC vld_4 _) (vld_powC hk _)
  have hv2 : vld (comS a d p) = true := vld_mul (vld_powC ha _) (vld_powC hd _)
  have m7 := fun W hb => challenge_any key a d (comR key p) (comS a d p) (sm_vld hk) (sm_vld ha) (sm_vld hd) (sm_vld hv1) (sm_vld hv2) W (TabOK.below hT hb)
  change ∀ W, Calls _ _ _ _ (fun e w' => e = .returned (.int .i64 (comR key p)) ∧ _) at m3
  change ∀ W, Calls _ _ _ _ (fun e w' => e = .returned (.int .i64 (comS a d p)) ∧ _) at m6
  obtain ⟨x, hx⟩ : ∃ x, powC 4 p.s = x := ⟨_, rfl⟩
  obtain ⟨y, hy⟩ : ∃ y, powC key (-p.e) = y := ⟨_, rfl⟩
  obtain ⟨z, hz⟩ : ∃ z, powC a p.s = z := ⟨_, rfl⟩
  obtain ⟨u, hu⟩ : ∃ u, powC d (-p.e) = u := ⟨_, rfl⟩
  obtain ⟨R, hR⟩ : ∃ R, comR key p = R := ⟨_, rfl⟩
  obtain ⟨Q, hQ⟩ : ∃ Q, comS a d p = Q := ⟨_, rfl⟩
  rw [hx] at m1 m3
  rw [hy] at m2 m3
  rw [hz] at m4 m6
  rw [hu] at m5 m6
  rw [hR] at m3 m7 ⊢
  rw [hQ] at m6 m7 ⊢
  obtain ⟨C, hC⟩ : ∃ C, chalN key a d R Q = C := ⟨_, rfl⟩
  rw [hC] at m7 ⊢
  obtain ⟨pe, hpe'⟩ : ∃ pe, p.e = pe := ⟨_, rfl⟩
  obtain ⟨ps, hps⟩ : ∃ ps, p.s = ps := ⟨_, rfl⟩
  rw [hpe'] at hc5 hw m2 m5 ⊢
  rw [hps] at hc5 m1 m4
  obtain ⟨bb, hbb⟩ : ∃ bb, decide (pe = C) = bb := ⟨_, rfl⟩
  rw [hbb]
  have HBB := Lib.hid hbb
  have M1 := Lib.hid m1
  have M2 := Lib.hid m2
  have M3 := Lib.hid m3
  have M4 := Lib.hid m4
  have M5 := Lib.hid m5
  have M6 := Lib.hid m6
  have M7 := Lib.hid m7
  have HC := Lib.hid hc5
  have h0 := hc5 w (Below.refl _ _)
  clear hbb m1 m2 m3 m4 m5 m6 m7 hx hy hz hu hR hQ hC hpe' hps hv1 hv2 h hpe hT hc5 hp hk ha hd
  go_enter Tryd.func51, Tryd.ntmps51
  go_wp2_with fail
  refine wp_region_ord 20 [(1, 0), (1, 1), (1, 3), (1, 4), (1, 5), (1, 6), (1, 10), (1, 11), (1, 12), (1, 14), (1, 15), (1, 16), (1, 17), (2, 2), (2, 7), (2, 8), (2, 9), (2, 13), (2, 18), (2, 19)] (fun W => W.cell? ⟨bp, 0, none⟩ = some (.int .i64 pe) ∧ W.cell? ⟨bp, 1, none⟩ = some (.int .i64 ps) ∧ W.cell? ⟨bk, 0, none⟩ = some (.int .i64 key) ∧ W.cell? ⟨ba, 0, none⟩ = some (.int .i64 a) ∧ W.cell? ⟨bd, 0, none⟩ = some (.int .i64 d)) (by kernel_rfl) (by kernel_rfl) (fun _ _ d _ _ h => by cases d <;> exact h) h0 ?_
  have hB := (Below.refl w.heap.size w).drew
  generalize w.drew = W1 at hB ⊢
  iterate 13
    refine wpOrd_take (v := ?_) rfl (by rfl) (fun w hSw => ?_) ?_
    rotate_left 1
    · obtain ⟨k0, k1, k2, k3, k4⟩ := hSw
      go_simp
      with_reducible rfl
    simp only [Act.put, List.setIfInBounds_toArray, List.set_cons_zero, List.set_cons_succ]
  refine wpOrd_step rfl (fun K hK => ⟨by rfl, ?_⟩)
  go_simp
  go_at_call 43
  refine (M1.out _).mono ?_
  rintro e w1 ⟨rfl, hb⟩
  replace hB := hB.trans (hb.mono hB.size)
  refine hK _ _ (HC.out _ hB) ?_
  clear hK K hb
  try simp only [Act.put, List.setIfInBounds_toArray, List.set_cons_zero, List.set_cons_succ]
  refine wpOrd_step rfl (fun K hK => ⟨by rfl, ?_⟩)
  go_simp
  go_at_call 43
  refine (M2.out _).mono ?_
  rintro e w2 ⟨rfl, hb⟩
  replace hB := hB.trans (hb.mono hB.size)
  refine hK _ _ (HC.out _ hB) ?_
  clear hK K hb
  try simp only [Act.put, List.setIfInBounds_toArray, List.set_cons_zero, List.set_cons_succ]
  refine wpOrd_step rfl (fun K hK => ⟨by rfl, ?_⟩)
  go_simp
  refine hK _ _ (HC.out _ (hB.alloc hB.size _)) ?_
  clear hK K
  try simp only [Act.put, List.setIfInBounds_toArray, List.set_cons_zero, List.set_cons_succ]
  refine wpOrd_step rfl (fun K hK => ⟨by rfl, ?_⟩)
  go_simp
  go_at_call 52
  refine (M3.out _).mono ?_
  rintro e w3 ⟨rfl, hb⟩
  replace hB := hB.trans (hb.mono hB.size)
  refine hK _ _ (HC.out _ hB) ?_
  clear hK K hb
  try simp only [Act.put, List.setIfInBounds_toArray, List.set_cons_zero, List.set_cons_succ]
  refine wpOrd_step rfl (fun K hK => ⟨by rfl, ?_⟩)
  go_simp
  go_at_call 43
  refine (M4.out _).mono ?_
  rintro e w4 ⟨rfl, hb⟩
  replace hB := hB.trans (hb.mono hB.size)
  refine hK _ _ (HC.out _ hB) ?_
  clear hK K hb
  try simp only [Act.put, List.setIfInBounds_toArray, List.set_cons_zero, List.set_cons_succ]
  refine wpOrd_step rfl (fun K hK => ⟨by rfl, ?_⟩)
  go_simp
  go_at_call 43
  refine (M5.out _).mono ?_
  rintro e w5 ⟨rfl, hb⟩
  replace hB := hB.trans (hb.mono hB.size)
  refine hK _ _ (HC.out _ hB) ?_
  clear hK K hb
  try simp only [Act.put, List.setIfInBounds_toArray, List.set_cons_zero, List.set_cons_succ]
  refine wpOrd_step rfl (fun K hK => ⟨by rfl, ?_⟩)
  go_simp
  refine hK _ _ (HC.out _ (hB.alloc hB.size _)) ?_
  clear hK K
  try simp only [Act.put, List.setIfInBounds_toArray, List.set_cons_zero, List.set_cons_succ]
  refine wpOrd_nil ?_
  simp only [List.drop_succ_cons, List.drop_zero]
  go_upto_region 2 with (go_at_call 52; (with_reducible refine (M6.out _).mono ?_); rintro e w6 ⟨rfl, hb⟩; replace hB := hB.trans (hb.mono hB.size); clear hb)
  refine wp_region_ord 8 [(1, 0), (1, 1), (1, 2), (1, 3), (1, 4), (1, 5), (1, 6), (2, 7)] (fun W => W.cell? ⟨bp, 0, none⟩ = some (.int .i64 pe) ∧ W.cell? ⟨bp, 1, none⟩ = some (.int .i64 ps) ∧ W.cell? ⟨bk, 0, none⟩ = some (.int .i64 key) ∧ W.cell? ⟨ba, 0, none⟩ = some (.int .i64 a) ∧ W.cell? ⟨bd, 0, none⟩ = some (.int .i64 d)) (by kernel_rfl) (by kernel_rfl) (fun _ _ d _ _ h => by cases d <;> exact h) (HC.out _ hB.drew) ?_
  replace hB := hB.drew
  generalize w6.drew = W7 at hB ⊢
  iterate 7
    refine wpOrd_take (v := ?_) rfl (by rfl) (fun w hSw => ?_) ?_
    rotate_left 1
    · obtain ⟨k0, k1, k2, k3, k4⟩ := hSw
      go_simp
      with_reducible rfl
    simp only [Act.put, List.setIfInBounds_toArray, List.set_cons_zero, List.set_cons_succ]
  refine wpOrd_step rfl (fun K hK => ⟨by rfl, ?_⟩)
  go_simp
  go_at_call 42
  refine (M7.out _ hB).mono ?_
  rintro e w8 ⟨rfl, hb⟩
  replace hB := hB.trans (hb.mono hB.size)
  refine hK _ _ (HC.out _ hB) ?_
  clear hK K hb
  try simp only [Act.put, List.setIfInBounds_toArray, List.set_cons_zero, List.set_cons_succ]
  refine wpOrd_nil ?_
  simp only [List.drop_succ_cons, List.drop_zero]
  by_cases hpc : pe = C
  · obtain rfl : bb = true := by rw [← HBB.out]; exact decide_eq_true hpc
    subst hpc
    go_wp2_with fail
    go_ret
    exact ⟨rfl, hB⟩
  · obtain rfl : bb = false := by rw [← HBB.out]; exact decide_eq_false hpc
    have hpc2 : (pe == C) = false := beq_eq_false_iff_ne.2 hpc
    go_wp2_with fail
    go_ret
    exact ⟨rfl, hB⟩
end Go.Proofs.YtaheibbbdglcmaaDoor

set_option linter.unusedSimpArgs false
set_option linter.unusedVariables false
namespace Go.Proofs.YtaheibbbdglcmaaDoor
open Go.RowKit Fk Sha
theorem row_size {w : World} {n : Nat} (h : w.heap.size = n) (t : TypeId) (vs : List Value) : Row (w.alloc (.cells vs.toArray t)) n t vs := h ▸ Row.new w t vs
/-- four blocks just made -/
theorem made4 (w : World) (v1 v2 v3 v4 : List Value) (t1 t2 t3 t4 : TypeId) :
    ∃ W, ((((w.alloc (.cells v1.toArray t1)).alloc (.cells v2.toArray t2)).alloc (.cells v3.toArray t3)).alloc (.cells v4.toArray t4)) = W ∧ Below w.heap.size w W ∧ W.heap.size = w.heap.size + 1 + 1 + 1 + 1 ∧
      Row W w.heap.size t1 v1 ∧ Row W (w.heap.size + 1) t2 v2 ∧ Row W (w.heap.size + 1 + 1) t3 v3 ∧ Row W (w.heap.size + 1 + 1 + 1) t4 v4 :=
  ⟨_, rfl, ((((Below.refl _ _).alloc (Nat.le_refl _) _).alloc (by simp) _).alloc (by simp; omega) _).alloc (by simp; omega) _, by simp, (((Row.new w t1 v1).alloc _).alloc _).alloc _, ((row_size (by simp) t2 v2).alloc _).alloc _, (row_size (by simp) t3 v3).alloc _, row_size (by simp) t4 v4⟩
theorem st3' {W : World} {b : Nat} {t : TypeId} {a0 a1 a2 : Value} (h : Row W b t [a0, a1, a2]) : W.cell? ⟨b, 0, none⟩ = some a0 ∧ W.cell? ⟨b, 1, none⟩ = some a1 ∧ W.cell? ⟨b, 2, none⟩ = some a2 := ⟨Row.cell h 0, Row.cell h 1, Row.cell h 2⟩
set_option maxRecDepth 100000 in
set_option maxHeartbeats 4000000 in
theorem eqcheck_any (key a d : Int) (p : Pf) (w : World) (hT : TabOK w) :
    Calls Tryd.prog 21 #[.int .i64 key, .int .i64 a, .int .i64 d, p.val] w fun e w' => e = .returned (.bool (chkB key a d p)) ∧ Below w.heap.size w w' := by
  obtain ⟨W, hW, hB, hz, r0, r1, r2, r3⟩ := made4 w [.int .i64 key] [.int .i64 a] [.int .i64 d] [.int .i64 p.e, .int .i64 p.s] 3 3 3 34
  obtain ⟨W2, hW2, hB2, g0, g1, g2, g3, rf⟩ : ∃ W2, W.alloc (.cells #[.func (Fn.func 48) #[] #[.pointer (some ⟨w.heap.size, 0, none⟩), .pointer (some ⟨w.heap.size + 1, 0, none⟩), .pointer (some ⟨w.heap.size + 1 + 1, 0, none⟩)], .func (Fn.func 49) #[] #[.pointer (some ⟨w.heap.size + 1 + 1 + 1, 0, none⟩)], .func (Fn.func 51) #[] #[.pointer (some ⟨w.heap.size + 1 + 1 + 1, 0, none⟩), .pointer (some ⟨w.heap.size, 0, none⟩), .pointer (some ⟨w.heap.size + 1, 0, none⟩), .pointer (some ⟨w.heap.size + 1 + 1, 0, none⟩)]] 23) = W2 ∧ Below w.heap.size w W2 ∧
      Row W2 w.heap.size 3 [.int .i64 key] ∧ Row W2 (w.heap.size + 1) 3 [.int .i64 a] ∧ Row W2 (w.heap.size + 1 + 1) 3 [.int .i64 d] ∧ Row W2 (w.heap.size + 1 + 1 + 1) 34 [.int .i64 p.e, .int .i64 p.s] ∧
      Row W2 (w.heap.size + 1 + 1 + 1 + 1) 23 [.func (Fn.func 48) #[] #[.pointer (some ⟨w.heap.size, 0, none⟩), .pointer (some ⟨w.heap.size + 1, 0, none⟩), .pointer (some ⟨w.heap.size + 1 + 1, 0, none⟩)], .func (Fn.func 49) #[] #[.pointer (some ⟨w.heap.size + 1 + 1 + 1, 0, none⟩)], .func (Fn.func 51) #[] #[.pointer (some ⟨w.heap.size + 1 + 1 + 1, 0, none⟩), .pointer (some ⟨w.heap.size, 0, none⟩), .pointer (some ⟨w.heap.size + 1, 0, none⟩), .pointer (some ⟨w.heap.size + 1 + 1, 0, none⟩)]] :=
    ⟨_, rfl, hB.alloc hB.size _, r0.alloc _, r1.alloc _, r2.alloc _, r3.alloc _, row_size hz _ _⟩
  obtain ⟨f0, f1, f2⟩ := st3' rf
  obtain ⟨p0, p1⟩ := st2 g3
  have k0 := st1c g0
  have k1 := st1c g1
  have k2 := st1c g2
  have q1 := check1_any key a d _ _ _ W2 k0 k1 k2
  have q2 := check2_any p _ W2 p0 p1
  have q3 := fun h1 h2 h3 h4 => check3_any key a d p h1 h2 h3 _ _ _ _ W2 (TabOK.below hT hB2) ⟨g3.lt, g0.lt, g1.lt, g2.lt⟩ ⟨p0, p1, k0, k1, k2⟩ h4
  have hck : chkB key a d p = ((vld key && (vld a && vld d)) && (inO p.e && inO p.s) && decide (p.e = chalN key a d (comR key p) (comS a d p))) := rfl
  have hlt := rf.lt
  clear r0 r1 r2 r3 rf g0 g1 g2 g3 k0 k1 k2 p0 p1
  obtain ⟨x, hx⟩ : ∃ x, (vld key && (vld a && vld d)) = x := ⟨_, rfl⟩
  obtain ⟨y, hy⟩ : ∃ y, (inO p.e && inO p.s) = y := ⟨_, rfl⟩
  obtain ⟨z, hz2⟩ : ∃ z, decide (p.e = chalN key a d (comR key p) (comS a d p)) = z := ⟨_, rfl⟩
  rw [hx, hy, hz2] at hck
  rw [hx] at q1
  rw [hy] at q2
  rw [hz2] at q3
  have HCK := Lib.hid hck
  have Q1 := Lib.hid q1
  have Q2 := Lib.hid q2
  rw [hck]
  unfold Pf.val
  obtain ⟨pe, hpe⟩ : ∃ pe, p.e = pe := ⟨_, rfl⟩
  obtain ⟨ps, hps⟩ : ∃ ps, p.s = ps := ⟨_, rfl⟩
  rw [hpe, hps] at hW
  rw [hpe, hps]
  cases x with
  | false =>
    clear q1 q2 q3 hck hx hy hz2 hpe hps
    go_enter Tryd.func21, Tryd.ntmps21
    go_wp2_with fail
    refine wp_loop_rounds 1 ?_
    rw [rounds_succ]
    go_wp2_with (first
    | (go_at_call 48; (with_reducible refine Q1.out.mono ?_); rintro e w1 ⟨rfl, rfl⟩)
    | (go_at_call 49; (with_reducible refine Q2.out.mono ?_); rintro e w1 ⟨rfl, rfl⟩)
    | (go_at_call 51; (with_reducible refine Q3.out.mono ?_); rintro e w3 ⟨rfl, hb⟩))
    go_ret
    exact ⟨rfl, hB2⟩
  | true =>
    cases y with
    | false =>
      clear q1 q2 q3 hck hx hy hz2 hpe hps
      go_enter Tryd.func21, Tryd.ntmps21
      go_wp2_with fail
      refine wp_loop_rounds 2 ?_
      rw [rounds_succ]
      go_wp2_with (first
    | (go_at_call 48; (with_reducible refine Q1.out.mono ?_); rintro e w1 ⟨rfl, rfl⟩)
    | (go_at_call 49; (with_reducible refine Q2.out.mono ?_); rintro e w1 ⟨rfl, rfl⟩)
    | (go_at_call 51; (with_reducible refine Q3.out.mono ?_); rintro e w3 ⟨rfl, hb⟩))
      rw [rounds_succ]
      go_wp2_with (first
    | (go_at_call 48; (with_reducible refine Q1.out.mono ?_); rintro e w1 ⟨rfl, rfl⟩)
    | (go_at_call 49; (with_reducible refine Q2.out.mono ?_); rintro e w1 ⟨rfl, rfl⟩)
    | (go_at_call 51; (with_reducible refine Q3.out.mono ?_); rintro e w3 ⟨rfl, hb⟩))
      go_ret
      exact ⟨rfl, hB2⟩
    | true =>
      simp only [Bool.and_eq_true] at hx hy
      have Q3 := Lib.hid (q3 hx.1 hx.2.1 hx.2.2 hy.1)
      clear q1 q2 q3 hck hx hy hz2 hpe hps
      cases z with
      | false =>
        go_enter Tryd.func21, Tryd.ntmps21
        go_wp2_with fail
        refine wp_loop_rounds 3 ?_
        iterate 3
          rw [rounds_succ]
          go_wp2_with (first
    | (go_at_call 48; (with_reducible refine Q1.out.mono ?_); rintro e w1 ⟨rfl, rfl⟩)
    | (go_at_call 49; (with_reducible refine Q2.out.mono ?_); rintro e w1 ⟨rfl, rfl⟩)
    | (go_at_call 51; (with_reducible refine Q3.out.mono ?_); rintro e w3 ⟨rfl, hb⟩))
        go_ret
        exact ⟨rfl, hB2.trans (hb.mono hB2.size)⟩
      | true =>
        go_enter Tryd.func21, Tryd.ntmps21
        go_wp2_with fail
        refine wp_loop_rounds 4 ?_
        iterate 4
          rw [rounds_succ]
          go_wp2_with (first
    | (go_at_call 48; (with_reducible refine Q1.out.mono ?_); rintro e w1 ⟨rfl, rfl⟩)
    | (go_at_call 49; (with_reducible refine Q2.out.mono ?_); rintro e w1 ⟨rfl, rfl⟩)
    | (go_at_call 51; (with_reducible refine Q3.out.mono ?_); rintro e w3 ⟨rfl, hb⟩))
        go_ret
        exact ⟨rfl, hB2.trans (hb.mono hB2.size)⟩
end Go.Proofs.YtaheibbbdglcmaaDoor

namespace Go.Proofs.YtaheibbbdglcmaaDoor
open Go.RowKit Fk

set_option maxHeartbeats 400000 in
theorem refpower_nat (a n : Nat) (ha : a < 2147483579) (hn : n < 2147483579) (w : World) :
    Calls Tryd.prog 55 #[.int .i64 a, .int .i64 n] w fun e w' => e = .returned (.int .i64 ((a ^ n % 2147483579 : Nat) : Int)) ∧ w = w' := by
  go_enter Tryd.func55, Tryd.ntmps55
  go_wp2
  go_loopg [0, 1, 5] n (fun k x m c wr => w = wr ∧ ∃ (x' c' : Nat), x = .int .i64 x' ∧ m = .int .i64 k ∧ c = .int .i64 c' ∧ k < 2147483579 ∧ x' < 2147483579 ∧ c' < 2147483579 ∧ PInv a n c' x' k)
  case atStart => exact ⟨rfl, a, 1, rfl, rfl, rfl, hn, ha, by omega, PInv.start a n⟩
  case round =>
    obtain ⟨rfl, x', c', rfl, rfl, rfl, b1, b2, b3, hI⟩ := hrel
    have m1 : c' * x' ≤ 2147483579 * 2147483579 := Nat.mul_le_mul (by omega) (by omega)
    have m2 : x' * x' ≤ 2147483579 * 2147483579 := Nat.mul_le_mul (by omega) (by omega)
    have m3 : (c' : Int) * x' = ((c' * x' : Nat) : Int) := by simp
    have m4 : (x' : Int) * x' = ((x' * x' : Nat) : Int) := by simp
    have m5 : 0 ≤ (c' : Int) * x' := by omega
    have m6 : 0 ≤ (x' : Int) * x' := by omega
    have m7 : (c' : Int) * x' ≤ 2147483579 * 2147483579 := by omega
    have m8 : (x' : Int) * x' ≤ 2147483579 * 2147483579 := by omega
    by_cases hk : 0 < gk
    · by_cases ho : gk % 2 = 1
      · have hI2 := PInv.odd hI ho
        have t1 : ((gk : Int) % 2 == 1) = true := by simp; omega
        clear hI ho m3 m4
        go_wp2
        go_roundg (gk / 2)
        case measure => omega
        case rel => exact ⟨rfl, x' * x' % 2147483579, c' * x' % 2147483579, by go_num, by go_num, by go_num, by omega, Nat.mod_lt _ (by omega), Nat.mod_lt _ (by omega), hI2⟩
      · have hI2 := PInv.even hI ho
        have t1 : ((gk : Int) % 2 == 1) = false := by simp; omega
        clear hI ho m3 m4
        go_wp2
        go_roundg (gk / 2)
        case measure => omega
        case rel => exact ⟨rfl, x' * x' % 2147483579, c', by go_num, by go_num, rfl, by omega, Nat.mod_lt _ (by omega), by omega, hI2⟩
    · obtain rfl : gk = 0 := by omega
      have hI2 := PInv.done hI b3
      clear hI m3 m4
      go_wp2
      go_ret
      exact ⟨ret_int (by rw [hI2]), rfl⟩
theorem refpower_any (a n : Int) (h1 : 0 ≤ a) (h2 : a < 2147483579) (h3 : 0 ≤ n) (h4 : n < 2147483579) (w : World) :
    Calls Tryd.prog 55 #[.int .i64 a, .int .i64 n] w fun e w' => e = .returned (.int .i64 (pwr a n)) ∧ w = w' := by
  have := refpower_nat a.toNat n.toNat (by omega) (by omega) w
  rw [Int.toNat_of_nonneg h1, Int.toNat_of_nonneg h3] at this
  exact this

set_option maxHeartbeats 400000 in
theorem refvalid_any (x : Int) (w : World) :
    Calls Tryd.prog 27 #[.int .i64 x] w fun e w' => e = .returned (.bool (vld x)) ∧ w = w' := by
  by_cases h1 : 1 ≤ x
  · by_cases h2 : x < 2147483579
    · rw [vld_pow h1 h2]
      go_enter Tryd.func27, Tryd.ntmps27
      go_wp2_with (go_at_call 55; refine (refpower_any _ _ (by omega) (by omega) (by omega) (by omega) _).mono ?_; rintro e w' ⟨rfl, rfl⟩)
      go_ret
      exact ⟨rfl, rfl⟩
    · rw [vld_out (by omega)]
      go_enter Tryd.func27, Tryd.ntmps27
      go_wp2
      go_ret
      exact ⟨rfl, rfl⟩
  · rw [vld_out (by omega)]
    go_enter Tryd.func27, Tryd.ntmps27
    go_wp2
    go_ret
    exact ⟨rfl, rfl⟩

set_option maxHeartbeats 400000 in
theorem refmul_any (a b : Int) (w : World) :
    Calls Tryd.prog 53 #[.int .i64 a, .int .i64 b] w fun e w' => e = .returned (.tuple #[.int .i64 (mulC a b), .int .i64 (mulE a b)]) ∧ w = w' := by
  by_cases ha : vld a = true
  · by_cases hb : vld b = true
    · have l1 := vld_lo ha
      have l2 := vld_hi ha
      have l3 := vld_lo hb
      have l4 := vld_hi hb
      have e1 : mulC a b = a * b % 2147483579 := by simp [mulC, ha, hb]
      have e2 : mulE a b = 0 := by simp [mulE, ha, hb]
      rw [e1, e2]
      clear e1 e2
      have m1 : 0 ≤ a * b := Int.mul_nonneg (by omega) (by omega)
      have m2 : a * b ≤ 2147483579 * 2147483579 := Int.mul_le_mul (by omega) (by omega) (by omega) (by omega)
      go_enter Tryd.func53, Tryd.ntmps53
      go_wp2_with (go_at_call 27; refine (refvalid_any _ _).mono ?_; rintro e w' ⟨rfl, rfl⟩)
      go_ret2
      exact ⟨rfl, rfl⟩
    · have hb' : vld b = false := by simpa using hb
      have e1 : mulC a b = 0 := by simp [mulC, hb']
      have e2 : mulE a b = 90 := by simp [mulE, hb']
      rw [e1, e2]
      clear e1 e2 hb
      go_enter Tryd.func53, Tryd.ntmps53
      go_wp2_with (go_at_call 27; refine (refvalid_any _ _).mono ?_; rintro e w' ⟨rfl, rfl⟩)
      go_ret2
      exact ⟨rfl, rfl⟩
  · have ha' : vld a = false := by simpa using ha
    have e1 : mulC a b = 0 := by simp [mulC, ha']
    have e2 : mulE a b = 90 := by simp [mulE, ha']
    rw [e1, e2]
    clear e1 e2 ha
    go_enter Tryd.func53, Tryd.ntmps53
    go_wp2_with (go_at_call 27; refine (refvalid_any _ _).mono ?_; rintro e w' ⟨rfl, rfl⟩)
    go_ret2
    exact ⟨rfl, rfl⟩

set_option maxHeartbeats 400000 in
theorem exponent_any (n : Int) (w : World) :
    Calls Tryd.prog 73 #[.int .i64 n] w fun e w' => e = .returned (.int .i64 (n % 1073741789)) ∧ w = w' := by
  have t1 := Int.tmod_lt_of_pos n (show (0 : Int) < 1073741789 by omega)
  by_cases h : n.tmod 1073741789 < 0
  · have e1 : n.tmod 1073741789 + 1073741789 = n % 1073741789 := tmod_neg (by omega) h
    have t2 : -1073741789 < n.tmod 1073741789 := Int.lt_tmod_of_pos n (by omega)
    have H := Lib.hid e1
    clear e1
    go_enter Tryd.func73, Tryd.ntmps73
    go_wp2
    go_ret
    exact ⟨ret_int H.out, rfl⟩
  · have e1 : n.tmod 1073741789 = n % 1073741789 := tmod_pos (by omega) (by omega)
    have H := Lib.hid e1
    clear e1
    go_enter Tryd.func73, Tryd.ntmps73
    go_wp2
    all_goals go_ret
    all_goals exact ⟨ret_int (by first | exact H.out | omega), rfl⟩

set_option maxHeartbeats 400000 in
theorem refpow_any (a n : Int) (w : World) :
    Calls Tryd.prog 45 #[.int .i64 a, .int .i64 n] w fun e w' => e = .returned (.tuple #[.int .i64 (powC a n), .int .i64 (powE a)]) ∧ w = w' := by
  by_cases ha : vld a = true
  · have l1 := vld_lo ha
    have l2 := vld_hi ha
    have e1 : powC a n = pwr a (n % 1073741789) := by simp [powC, ha]
    have e2 : powE a = 0 := by simp [powE, ha]
    rw [e1, e2]
    clear e1 e2
    have n1 : 0 ≤ n % 1073741789 := by omega
    have n2 : n % 1073741789 < 1073741789 := by omega
    go_enter Tryd.func45, Tryd.ntmps45
    go_wp2_with (first | (go_at_call 27; refine (refvalid_any _ _).mono ?_; rintro e w' ⟨rfl, rfl⟩) | (go_at_call 73; refine (exponent_any _ _).mono ?_; rintro e w' ⟨rfl, rfl⟩) | (go_at_call 55; refine (refpower_any _ _ (by omega) (by omega) (by omega) (by omega) _).mono ?_; rintro e w' ⟨rfl, rfl⟩))
    go_ret2
    exact ⟨rfl, rfl⟩
  · have ha' : vld a = false := by simpa using ha
    have e1 : powC a n = 0 := by simp [powC, ha']
    have e2 : powE a = 90 := by simp [powE, ha']
    rw [e1, e2]
    clear e1 e2 ha
    go_enter Tryd.func45, Tryd.ntmps45
    go_wp2_with (go_at_call 27; refine (refvalid_any _ _).mono ?_; rintro e w' ⟨rfl, rfl⟩)
    go_ret2
    exact ⟨rfl, rfl⟩
end Go.Proofs.YtaheibbbdglcmaaDoor
