import Derived.Test.YtlbnbginippjfaaRecP
/-! The reference's ways to the same numbers. -/
namespace Fk
def sumP (x : Int) : List Int → Int
  | [] => 0
  | m :: r => m + x * sumP x r
theorem cg_iff {a b : Int} : a % 1073741789 = b % 1073741789 ↔ ∃ k, a = b + 1073741789 * k := by
  constructor
  · intro h
    obtain ⟨k, hk⟩ := dvd_sub_of_emod_eq h
    exact ⟨k, by omega⟩
  · rintro ⟨k, rfl⟩
    exact Int.add_mul_emod_self_left b 1073741789 k
theorem cg_mod (a : Int) : ∃ k, a % 1073741789 = a + 1073741789 * k := ⟨-(a / 1073741789), by have := Int.emod_add_mul_ediv a 1073741789; omega⟩
theorem horner_sum (x : Int) : ∀ l : List Int, hornerQ x l % 1073741789 = (x * sumP x l) % 1073741789
  | [] => by simp [hornerQ, sumP]
  | m :: r => by
    obtain ⟨k1, h1⟩ := cg_iff.1 (horner_sum x r)
    obtain ⟨k2, h2⟩ := cg_mod m
    rw [hornerQ, sumP, Int.emod_emod_of_dvd _ (Int.dvd_refl _)]
    refine cg_iff.2 ⟨(k1 + k2) * x, ?_⟩
    rw [h1, h2]
    grind
theorem pval_sum (s : Int) (l : List Int) (x : Int) : pval s l x = (s + x * sumP x l) % 1073741789 := by
  obtain ⟨k, hk⟩ := cg_iff.1 (horner_sum x l)
  unfold pval
  refine cg_iff.2 ⟨k, ?_⟩
  rw [hk]; omega
/-- what holds at the head of the reference's loop -/
def RVal (s x : Int) (l : List Int) (i : Nat) (n pw : Int) : Prop := (n + pw * (x * sumP x (l.drop i))) % 1073741789 = (s + x * sumP x l) % 1073741789 ∧ 0 ≤ n ∧ n < 1073741789 ∧ 0 ≤ pw ∧ pw < 1073741789
theorem RVal.start (s x : Int) (l : List Int) (hs : 0 ≤ s ∧ s < 1073741789) : RVal s x l 0 s 1 := by
  refine ⟨by rw [List.drop_zero, Int.one_mul], hs.1, hs.2, by omega, by omega⟩
theorem RVal.step {s x : Int} {l : List Int} {i : Nat} {n pw : Int} (h : RVal s x l i n pw) (hi : i < l.length) :
    RVal s x l (i + 1) ((n + l.getD i default % 1073741789 * (pw * (x % 1073741789) % 1073741789) % 1073741789) % 1073741789) (pw * (x % 1073741789) % 1073741789) := by
  obtain ⟨h0, _, _, _, _⟩ := h
  refine ⟨?_, by omega, by omega, by omega, by omega⟩
  rw [← h0]
  have hd : l.drop i = l.getD i default :: l.drop (i + 1) := by rw [List.drop_eq_getElem_cons hi]; simp [hi]
  rw [hd, sumP]
  generalize l.getD i default = m
  generalize sumP x (l.drop (i + 1)) = S
  obtain ⟨k1, e1⟩ := cg_mod x
  obtain ⟨k2, e2⟩ := cg_mod (pw * (x % 1073741789))
  obtain ⟨k3, e3⟩ := cg_mod m
  obtain ⟨k4, e4⟩ := cg_mod (m % 1073741789 * (pw * (x % 1073741789) % 1073741789))
  obtain ⟨k5, e5⟩ := cg_mod (n + m % 1073741789 * (pw * (x % 1073741789) % 1073741789) % 1073741789)
  rw [e5, e4, e2, e3, e1]
  refine cg_iff.2 ⟨k5 + k4 + k3 * (pw * (x + 1073741789 * k1) + 1073741789 * k2) + (m + x * S) * (pw * k1 + k2), ?_⟩
  grind
theorem RVal.done {s x : Int} {l : List Int} {n pw : Int} (h : RVal s x l l.length n pw) : n = pval s l x := by
  obtain ⟨h0, h1, h2, _, _⟩ := h
  rw [List.drop_length, sumP, Int.mul_zero, Int.mul_zero, Int.add_zero, Int.emod_eq_of_lt h1 h2] at h0
  rw [h0, pval_sum]

/-! ### recovering -/
/-- two numbers are, modulo Q, one sign times two others -/
def Sg (a b p q : Int) : Prop := (a % 1073741789 = p % 1073741789 ∧ b % 1073741789 = q % 1073741789) ∨ (a % 1073741789 = (-p) % 1073741789 ∧ b % 1073741789 = (-q) % 1073741789)
theorem Sg.step {a b p q t d : Int} (h : Sg a b p q) : Sg (a * (-t)) (b * (-d)) (p * t) (q * d) := by
  rcases h with ⟨h1, h2⟩ | ⟨h1, h2⟩
  · right
    obtain ⟨k1, rfl⟩ := cg_iff.1 h1
    obtain ⟨k2, rfl⟩ := cg_iff.1 h2
    exact ⟨cg_iff.2 ⟨-(k1 * t), by grind⟩, cg_iff.2 ⟨-(k2 * d), by grind⟩⟩
  · left
    obtain ⟨k1, rfl⟩ := cg_iff.1 h1
    obtain ⟨k2, rfl⟩ := cg_iff.1 h2
    exact ⟨cg_iff.2 ⟨-(k1 * t), by grind⟩, cg_iff.2 ⟨-(k2 * d), by grind⟩⟩
theorem Sg.congr {a b p q a' b' p' q' : Int} (h : Sg a b p q) (ha : a' % 1073741789 = a % 1073741789) (hb : b' % 1073741789 = b % 1073741789) (hp : p' % 1073741789 = p % 1073741789) (hq : q' % 1073741789 = q % 1073741789) : Sg a' b' p' q' := by
  have neg : ∀ {x y : Int}, x % 1073741789 = y % 1073741789 → (-x) % 1073741789 = (-y) % 1073741789 := fun h => by
    obtain ⟨k, rfl⟩ := cg_iff.1 h
    exact cg_iff.2 ⟨-k, by grind⟩
  rcases h with ⟨h1, h2⟩ | ⟨h1, h2⟩
  · left; exact ⟨by rw [ha, h1, hp], by rw [hb, h2, hq]⟩
  · right; exact ⟨by rw [ha, h1, neg hp], by rw [hb, h2, neg hq]⟩
theorem powZ_congr {a b : Int} (h : a % 1073741789 = b % 1073741789) : ∀ n : Nat, a ^ n % 1073741789 = b ^ n % 1073741789
  | 0 => by rw [Int.pow_zero, Int.pow_zero]
  | n + 1 => by rw [Int.pow_succ, Int.pow_succ, Int.mul_emod, powZ_congr h n, h, ← Int.mul_emod]
theorem neg_powZ (a : Int) : ∀ m : Nat, (-a) ^ (2 * m + 1) = -(a ^ (2 * m + 1))
  | 0 => by rw [show 2 * 0 + 1 = 1 from rfl, Int.pow_succ, Int.pow_succ, Int.pow_zero, Int.pow_zero, Int.one_mul, Int.one_mul]
  | m + 1 => by
    have ih := neg_powZ a m
    have e : 2 * (m + 1) + 1 = (2 * m + 1) + 1 + 1 := by omega
    rw [e, Int.pow_succ, Int.pow_succ, Int.pow_succ a (2 * m + 1 + 1), Int.pow_succ a (2 * m + 1), ih]
    simp [Int.neg_mul, Int.mul_neg]
def ex2 : Nat := 1073741787
theorem ex2_eq : ex2 = 2 * 536870893 + 1 := rfl
theorem pwQ_ex (a : Int) (ha : 0 ≤ a) : pwQ a 1073741787 = a ^ ex2 % 1073741789 := by
  unfold pwQ
  rw [show (1073741787 : Int).toNat = ex2 from rfl, Int.natCast_emod, Int.natCast_pow, Int.toNat_of_nonneg ha]
  rfl
theorem Sg.quot {a b p q : Int} (h : Sg a b p q) (hb : 0 ≤ b) (hq : 0 ≤ q) : (a * pwQ b 1073741787) % 1073741789 = (p * pwQ q 1073741787) % 1073741789 := by
  rw [pwQ_ex b hb, pwQ_ex q hq]
  rcases h with ⟨h1, h2⟩ | ⟨h1, h2⟩
  · rw [powZ_congr h2, Int.mul_emod, h1, ← Int.mul_emod]
  · rw [powZ_congr h2, ex2_eq, neg_powZ, ← ex2_eq, Int.mul_emod, h1, ← Int.mul_emod]
    obtain ⟨k1, e1⟩ := cg_mod (-(q ^ ex2))
    obtain ⟨k2, e2⟩ := cg_mod (q ^ ex2)
    rw [e1, e2]
    exact cg_iff.2 ⟨-(p * k1) - p * k2, by grind⟩

theorem nodup_length_le : ∀ (l m : List Nat), l.Nodup → (∀ a ∈ l, a ∈ m) → l.length ≤ m.length
  | [], _, _, _ => by simp
  | a :: t, m, hn, hs => by
    have ha : a ∈ m := hs a (by simp)
    rw [List.nodup_cons] at hn
    have := nodup_length_le t (m.erase a) hn.2 (fun b hb => (List.mem_erase_of_ne (fun (e : b = a) => hn.1 (e ▸ hb))).2 (hs b (by simp [hb])))
    have h2 := List.length_erase_of_mem ha
    have h3 := List.length_pos_of_mem ha
    simp; omega
theorem formed_le {l : List Sh} (h : formedS l) : l.length ≤ 24 := by
  have h1 : (l.map fun s => s.a.toNat).Nodup := by
    rw [List.Nodup, List.pairwise_map, List.pairwise_iff_getElem]
    intro i j hi hj hij he
    have hi' := (h.2 i hi).1
    have hj' := h.2 j hj
    have := hj'.2 i hij
    rw [List.getD_eq_getElem?_getD, List.getElem?_eq_getElem hi] at hi' this
    have h4 := hj'.1
    rw [List.getD_eq_getElem?_getD, List.getElem?_eq_getElem hj] at h4 this
    unfold shOK at hi' h4
    simp only [Option.getD_some] at *
    omega
  have := nodup_length_le _ (List.range' 1 24) h1 (fun a ha => by
    obtain ⟨s, hs, rfl⟩ := List.mem_map.1 ha
    obtain ⟨i, hi, rfl⟩ := List.getElem_of_mem hs
    have hi' := (h.2 i hi).1
    rw [List.getD_eq_getElem?_getD, List.getElem?_eq_getElem hi] at hi'
    unfold shOK at hi'
    simp only [Option.getD_some] at hi'
    rw [List.mem_range'_1]; omega)
  simpa using this
/-- the product of the other places -/
def pA (s : Sh) (l : List Sh) : Int := l.foldl (stepA s) 1
theorem pA_snoc (s : Sh) (l : List Sh) (t : Sh) : pA s (l ++ [t]) = stepA s (pA s l) t := by simp [pA]
theorem foldA_mul (s : Sh) : ∀ (l : List Sh) (c d v : Int), c % 1073741789 = (v * d) % 1073741789 → l.foldl (stepA s) c % 1073741789 = (v * l.foldl (stepA s) d) % 1073741789
  | [], c, d, v, h => h
  | t :: l, c, d, v, h => by
    rw [List.foldl_cons, List.foldl_cons]
    apply foldA_mul s l
    unfold stepA
    split
    · exact h
    · obtain ⟨k, rfl⟩ := cg_iff.1 h
      obtain ⟨k1, e1⟩ := cg_mod ((v * d + 1073741789 * k) * t.a)
      obtain ⟨k2, e2⟩ := cg_mod (d * t.a)
      rw [e1, e2]
      exact cg_iff.2 ⟨k1 + k * t.a - v * k2, by grind⟩
theorem above_pA (s : Sh) (l : List Sh) : aboveQ s l % 1073741789 = (s.v * pA s l) % 1073741789 := foldA_mul s l _ _ _ (by rw [Int.mul_one])
/-- the reference's inner loop -/
def RInv (s : Sh) (l : List Sh) (k : Nat) (a b : Int) : Prop := Sg a b (pA s (l.take k)) (belowQ s (l.take k))
theorem RInv.start (s : Sh) (l : List Sh) : RInv s l 0 1 1 := .inl ⟨by simp [pA], by simp [belowQ]⟩
theorem RInv.skip {s : Sh} {l : List Sh} {k : Nat} {a b : Int} (h : RInv s l k a b) (hk : k < l.length) (he : (l.getD k default).a = s.a) : RInv s l (k + 1) a b := by
  unfold RInv at *
  rw [take_snocS hk, pA_snoc, belowQ_snoc, stepA, stepB, if_pos he, if_pos he]
  exact h
theorem RInv.step {s : Sh} {l : List Sh} {k : Nat} {a b : Int} (h : RInv s l k a b) (hk : k < l.length) (he : (l.getD k default).a ≠ s.a) :
    RInv s l (k + 1) (a % 1073741789 * (-(l.getD k default).a % 1073741789) % 1073741789) (b % 1073741789 * ((s.a - (l.getD k default).a) % 1073741789) % 1073741789) := by
  unfold RInv at *
  rw [take_snocS hk, pA_snoc, belowQ_snoc, stepA, stepB, if_neg he, if_neg he]
  refine (h.step (t := (l.getD k default).a) (d := (l.getD k default).a - s.a)).congr ?_ ?_ ?_ ?_
  · rw [Int.emod_emod_of_dvd _ (Int.dvd_refl _), ← Int.mul_emod]
  · rw [Int.emod_emod_of_dvd _ (Int.dvd_refl _), ← Int.mul_emod, Int.neg_sub]
  · rw [Int.emod_emod_of_dvd _ (Int.dvd_refl _)]
  · rw [Int.emod_emod_of_dvd _ (Int.dvd_refl _), Int.mul_emod, Int.emod_emod_of_dvd _ (Int.dvd_refl _), ← Int.mul_emod]
theorem RInv.done {s : Sh} {l : List Sh} {a b R : Int} (h : RInv s l l.length a b) (hb : 0 ≤ b ∧ b < 1073741789) :
    (R + s.v % 1073741789 * (a % 1073741789 * (pwQ (b % 1073741789) 1073741787 % 1073741789) % 1073741789 % 1073741789) % 1073741789) % 1073741789 = stepR l R s := by
  unfold RInv at h
  rw [List.take_length] at h
  have hq := h.quot hb.1 (belowQ_bd s l).1
  have h1 := above_pA s l
  unfold stepR
  rw [Int.emod_eq_of_lt hb.1 hb.2]
  generalize pwQ b 1073741787 = B at *
  generalize pwQ (belowQ s l) 1073741787 = C at *
  generalize aboveQ s l = A at *
  generalize pA s l = Pl at *
  have e : (s.v % 1073741789 * (a % 1073741789 * (B % 1073741789) % 1073741789 % 1073741789)) % 1073741789 = (A * C) % 1073741789 := by
    have e1 : (a % 1073741789 * (B % 1073741789) % 1073741789 % 1073741789) % 1073741789 = (Pl * C) % 1073741789 := by
      rw [Int.emod_emod_of_dvd _ (Int.dvd_refl _), Int.emod_emod_of_dvd _ (Int.dvd_refl _), ← Int.mul_emod, hq]
    rw [Int.mul_emod, e1, Int.emod_emod_of_dvd _ (Int.dvd_refl _), ← Int.mul_emod, ← Int.mul_assoc, Int.mul_emod, ← h1, ← Int.mul_emod]
  rw [e, Int.add_emod, Int.emod_emod_of_dvd _ (Int.dvd_refl _), ← Int.add_emod]
end Fk
