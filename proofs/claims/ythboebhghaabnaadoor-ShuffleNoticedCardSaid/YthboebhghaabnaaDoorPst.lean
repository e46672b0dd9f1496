import Derived.Test.YthboebhghaabnaaDoorPsm
/-! Shares, in plain words: values of polynomials modulo Q. -/
namespace Fk
structure Sh where
  a : Int
  v : Int
instance : Inhabited Sh := ⟨⟨0, 0⟩⟩
def hornerQ (x : Int) : List Int → Int
  | [] => 0
  | m :: r => (hornerQ x r + m % 1073741789) * x % 1073741789
def pval (s : Int) (more : List Int) (x : Int) : Int := (hornerQ x more + s) % 1073741789
theorem hornerQ_bd (x : Int) (l : List Int) : 0 ≤ hornerQ x l ∧ hornerQ x l < 1073741789 := by
  cases l with
  | nil => simp [hornerQ]
  | cons m r => rw [hornerQ]; omega
theorem pval_bd (s : Int) (l : List Int) (x : Int) : 0 ≤ pval s l x ∧ pval s l x < 1073741789 := by
  unfold pval; omega
def dealOK (s : Int) (k : Nat) (n : Int) : Prop := 1 ≤ s ∧ s < 1073741789 ∧ 1 ≤ n ∧ n ≤ 24 ∧ (k : Int) < n
def dealTo (s : Int) (more : List Int) (k : Nat) : List Sh := (List.range k).map fun (i : Nat) => ⟨(i : Int) + 1, pval s more ((i : Int) + 1)⟩
theorem dealTo_succ (s : Int) (more : List Int) (k : Nat) : dealTo s more (k + 1) = dealTo s more k ++ [⟨(k : Int) + 1, pval s more ((k : Int) + 1)⟩] := by
  unfold dealTo; rw [List.range_succ, List.map_append]; rfl
theorem dealTo_length (s : Int) (more : List Int) (k : Nat) : (dealTo s more k).length = k := by simp [dealTo]
def dealE (s : Int) (k : Nat) (n : Int) : Int := if s < 1 ∨ 1073741789 ≤ s then 110 else if n < 1 ∨ 24 < n ∨ n ≤ k then 1 else 0
def dealV (s : Int) (more : List Int) (n : Int) : List Sh := if dealE s more.length n = 0 then dealTo s more n.toNat else []
end Fk

/-! What is recovered from shares. -/
namespace Fk
/-- powers modulo Q -/
def PQ (a n c x m : Nat) : Prop := c * x ^ m % 1073741789 = a ^ n % 1073741789
theorem PQ.start (a n : Nat) : PQ a n 1 a n := by simp [PQ]
theorem powQ_half (x m : Nat) : x ^ m % 1073741789 = (if m % 2 = 1 then x * (x * x % 1073741789) ^ (m / 2) else (x * x % 1073741789) ^ (m / 2)) % 1073741789 := by
  have e : (x * x % 1073741789) ^ (m / 2) % 1073741789 = x ^ (2 * (m / 2)) % 1073741789 := by
    rw [← Nat.pow_mod, Nat.pow_mul, Nat.pow_two]
  by_cases h : m % 2 = 1
  · rw [if_pos h, Nat.mul_mod, e, ← Nat.mul_mod, ← Nat.pow_succ']
    congr 2; omega
  · rw [if_neg h, e]; congr 2; omega
theorem PQ.odd {a n c x m : Nat} (h : PQ a n c x m) (ho : m % 2 = 1) : PQ a n (c * x % 1073741789) (x * x % 1073741789) (m / 2) := by
  unfold PQ at *
  rw [← h, Nat.mul_mod c (x ^ m), powQ_half x m, if_pos ho, Nat.mul_mod (c * x % 1073741789), Nat.mod_mod, ← Nat.mul_mod, ← Nat.mul_mod, Nat.mul_assoc]
theorem PQ.even {a n c x m : Nat} (h : PQ a n c x m) (ho : ¬ m % 2 = 1) : PQ a n c (x * x % 1073741789) (m / 2) := by
  unfold PQ at *
  rw [← h, Nat.mul_mod c (x ^ m), powQ_half x m, if_neg ho, ← Nat.mul_mod]
theorem PQ.done {a n c x : Nat} (h : PQ a n c x 0) (hc : c < 1073741789) : c = a ^ n % 1073741789 := by
  unfold PQ at h
  rw [Nat.pow_zero, Nat.mul_one, Nat.mod_eq_of_lt hc] at h
  exact h
def pwQ (a n : Int) : Int := ((a.toNat ^ n.toNat % 1073741789 : Nat) : Int)
theorem pwQ_bd (a n : Int) : 0 ≤ pwQ a n ∧ pwQ a n < 1073741789 := by
  unfold pwQ
  have := Nat.mod_lt (a.toNat ^ n.toNat) (show 0 < 1073741789 by omega)
  omega

/-- a share in form -/
def shOK (s : Sh) : Prop := 1 ≤ s.a ∧ s.a ≤ 24 ∧ 0 ≤ s.v ∧ s.v < 1073741789
/-- the i-th share is in form, and none before it has its place -/
def shAt (l : List Sh) (i : Nat) : Prop := shOK (l.getD i default) ∧ ∀ j, j < i → (l.getD j default).a ≠ (l.getD i default).a
def formedS (l : List Sh) : Prop := 0 < l.length ∧ ∀ i, i < l.length → shAt l i
def stepA (s : Sh) (c : Int) (t : Sh) : Int := if t.a = s.a then c else c * t.a % 1073741789
def stepB (s : Sh) (c : Int) (t : Sh) : Int := if t.a = s.a then c else c * ((t.a - s.a) % 1073741789) % 1073741789
def aboveQ (s : Sh) (l : List Sh) : Int := l.foldl (stepA s) s.v
def belowQ (s : Sh) (l : List Sh) : Int := l.foldl (stepB s) 1
def stepR (l : List Sh) (acc : Int) (s : Sh) : Int := (acc + aboveQ s l * pwQ (belowQ s l) 1073741787) % 1073741789
def recTo (l : List Sh) (k : Nat) : Int := (l.take k).foldl (stepR l) 0
open Classical in
noncomputable def recV (l : List Sh) : Int := if formedS l then recTo l l.length else 0
open Classical in
noncomputable def recE (l : List Sh) : Int := if formedS l then 0 else 471
theorem take_snocS {l : List Sh} {k : Nat} (h : k < l.length) : l.take (k + 1) = l.take k ++ [l.getD k default] := by
  rw [List.take_succ_eq_append_getElem h]
  simp [h]
theorem aboveQ_snoc (s : Sh) (l : List Sh) (t : Sh) : aboveQ s (l ++ [t]) = stepA s (aboveQ s l) t := by simp [aboveQ]
theorem belowQ_snoc (s : Sh) (l : List Sh) (t : Sh) : belowQ s (l ++ [t]) = stepB s (belowQ s l) t := by simp [belowQ]
theorem recTo_succ {l : List Sh} {k : Nat} (h : k < l.length) : recTo l (k + 1) = stepR l (recTo l k) (l.getD k default) := by
  unfold recTo; rw [take_snocS h, List.foldl_append]; rfl
theorem fold_bd (f : Int → Sh → Int) (hf : ∀ c t, 0 ≤ c ∧ c < 1073741789 → 0 ≤ f c t ∧ f c t < 1073741789) : ∀ (l : List Sh) (c : Int), 0 ≤ c ∧ c < 1073741789 → 0 ≤ l.foldl f c ∧ l.foldl f c < 1073741789
  | [], _, h => h
  | t :: l, c, h => fold_bd f hf l (f c t) (hf c t h)
theorem aboveQ_bd {s : Sh} (hs : 0 ≤ s.v ∧ s.v < 1073741789) (l : List Sh) : 0 ≤ aboveQ s l ∧ aboveQ s l < 1073741789 :=
  fold_bd _ (fun c t h => by unfold stepA; split <;> omega) l _ hs
theorem belowQ_bd (s : Sh) (l : List Sh) : 0 ≤ belowQ s l ∧ belowQ s l < 1073741789 :=
  fold_bd _ (fun c t h => by unfold stepB; split <;> omega) l _ (by omega)
theorem recTo_bd (l : List Sh) (k : Nat) : 0 ≤ recTo l k ∧ recTo l k < 1073741789 :=
  fold_bd _ (fun c t h => by unfold stepR; omega) _ _ (by omega)
theorem recE_bad {l : List Sh} {i : Nat} (hi : i < l.length) (h : ¬ shAt l i) : recE l = 471 ∧ recV l = 0 := by
  have hn : ¬ formedS l := fun hc => h (hc.2 i hi)
  unfold recE recV; rw [if_neg hn, if_neg hn]; exact ⟨rfl, rfl⟩
theorem recE_nil : recE [] = 471 ∧ recV [] = 0 := by
  have hn : ¬ formedS [] := fun hc => absurd hc.1 (by simp)
  unfold recE recV; rw [if_neg hn, if_neg hn]; exact ⟨rfl, rfl⟩
theorem recE_ok {l : List Sh} (h : formedS l) : recE l = 0 ∧ recV l = recTo l l.length := by
  unfold recE recV; rw [if_pos h, if_pos h]; exact ⟨rfl, rfl⟩
/-- which places have been met -/
def metB (l : List Sh) (j : Nat) : Bool := l.any fun s => s.a == (j : Int)
theorem metB_snoc (l : List Sh) (s : Sh) (j : Nat) : metB (l ++ [s]) j = (metB l j || s.a == (j : Int)) := by simp [metB]
theorem met_iff {l : List Sh} {k : Nat} (hk : k ≤ l.length) (j : Nat) : metB (l.take k) j = true ↔ ∃ i, i < k ∧ (l.getD i default).a = (j : Int) := by
  unfold metB
  rw [List.any_eq_true]
  constructor
  · rintro ⟨s, hs, he⟩
    obtain ⟨i, hi, rfl⟩ := List.getElem_of_mem hs
    rw [List.length_take] at hi
    refine ⟨i, by omega, ?_⟩
    rw [List.getElem_take] at he
    rw [List.getD_eq_getElem?_getD, List.getElem?_eq_getElem (by omega)]
    simpa using he
  · rintro ⟨i, hi, he⟩
    refine ⟨(l.take k)[i]'(by rw [List.length_take]; omega), List.getElem_mem _, ?_⟩
    rw [List.getElem_take]
    rw [List.getD_eq_getElem?_getD, List.getElem?_eq_getElem (by omega)] at he
    simpa using he
theorem next_sh {l : List Sh} {k : Nat} (h : ∀ j, j < k → shAt l j) (hk : shAt l k) : ∀ j, j < k + 1 → shAt l j := fun j hj => by
  rcases Nat.lt_or_ge j k with h1 | h1
  · exact h j h1
  · obtain rfl : j = k := by omega
    exact hk
end Fk

/-! The reference's ways to the same numbers. -/
namespace Fk
def sumP (x : Int) : List Int → Int
  | [] => 0
  | m :: r => m + x * sumP x r
theorem cg_iff {a b : Int} : a % 1073741789 = b % 1073741789 ↔ ∃ k, a = b + 1073741789 * k := by
  constructor
  · intro h
    obtain ⟨k, hk⟩ := dvd_sub_of_emod_eq h
    exact ⟨k, by omega⟩
  · rintro ⟨k, rfl⟩
    exact Int.add_mul_emod_self_left b 1073741789 k
theorem cg_mod (a : Int) : ∃ k, a % 1073741789 = a + 1073741789 * k := ⟨-(a / 1073741789), by have := Int.emod_add_mul_ediv a 1073741789; omega⟩
theorem horner_sum (x : Int) : ∀ l : List Int, hornerQ x l % 1073741789 = (x * sumP x l) % 1073741789
  | [] => by simp [hornerQ, sumP]
  | m :: r => by
    obtain ⟨k1, h1⟩ := cg_iff.1 (horner_sum x r)
    obtain ⟨k2, h2⟩ := cg_mod m
    rw [hornerQ, sumP, Int.emod_emod_of_dvd _ (Int.dvd_refl _)]
    refine cg_iff.2 ⟨(k1 + k2) * x, ?_⟩
    rw [h1, h2]
    grind
theorem pval_sum (s : Int) (l : List Int) (x : Int) : pval s l x = (s + x * sumP x l) % 1073741789 := by
  obtain ⟨k, hk⟩ := cg_iff.1 (horner_sum x l)
  unfold pval
  refine cg_iff.2 ⟨k, ?_⟩
  rw [hk]; omega
/-- what holds at the head of the reference's loop -/
def RVal (s x : Int) (l : List Int) (i : Nat) (n pw : Int) : Prop := (n + pw * (x * sumP x (l.drop i))) % 1073741789 = (s + x * sumP x l) % 1073741789 ∧ 0 ≤ n ∧ n < 1073741789 ∧ 0 ≤ pw ∧ pw < 1073741789
theorem RVal.start (s x : Int) (l : List Int) (hs : 0 ≤ s ∧ s < 1073741789) : RVal s x l 0 s 1 := by
  refine ⟨by rw [List.drop_zero, Int.one_mul], hs.1, hs.2, by omega, by omega⟩
theorem RVal.step {s x : Int} {l : List Int} {i : Nat} {n pw : Int} (h : RVal s x l i n pw) (hi : i < l.length) :
    RVal s x l (i + 1) ((n + l.getD i default % 1073741789 * (pw * (x % 1073741789) % 1073741789) % 1073741789) % 1073741789) (pw * (x % 1073741789) % 1073741789) := by
  obtain ⟨h0, _, _, _, _⟩ := h
  refine ⟨?_, by omega, by omega, by omega, by omega⟩
  rw [← h0]
  have hd : l.drop i = l.getD i default :: l.drop (i + 1) := by rw [List.drop_eq_getElem_cons hi]; simp [hi]
  rw [hd, sumP]
  generalize l.getD i default = m
  generalize sumP x (l.drop (i + 1)) = S
  obtain ⟨k1, e1⟩ := cg_mod x
  obtain ⟨k2, e2⟩ := cg_mod (pw * (x % 1073741789))
  obtain ⟨k3, e3⟩ := cg_mod m
  obtain ⟨k4, e4⟩ := cg_mod (m % 1073741789 * (pw * (x % 1073741789) % 1073741789))
  obtain ⟨k5, e5⟩ := cg_mod (n + m % 1073741789 * (pw * (x % 1073741789) % 1073741789) % 1073741789)
  rw [e5, e4, e2, e3, e1]
  refine cg_iff.2 ⟨k5 + k4 + k3 * (pw * (x + 1073741789 * k1) + 1073741789 * k2) + (m + x * S) * (pw * k1 + k2), ?_⟩
  grind
theorem RVal.done {s x : Int} {l : List Int} {n pw : Int} (h : RVal s x l l.length n pw) : n = pval s l x := by
  obtain ⟨h0, h1, h2, _, _⟩ := h
  rw [List.drop_length, sumP, Int.mul_zero, Int.mul_zero, Int.add_zero, Int.emod_eq_of_lt h1 h2] at h0
  rw [h0, pval_sum]

/-! ### recovering -/
/-- two numbers are, modulo Q, one sign times two others -/
def Sg (a b p q : Int) : Prop := (a % 1073741789 = p % 1073741789 ∧ b % 1073741789 = q % 1073741789) ∨ (a % 1073741789 = (-p) % 1073741789 ∧ b % 1073741789 = (-q) % 1073741789)
theorem Sg.step {a b p q t d : Int} (h : Sg a b p q) : Sg (a * (-t)) (b * (-d)) (p * t) (q * d) := by
  rcases h with ⟨h1, h2⟩ | ⟨h1, h2⟩
  · right
    obtain ⟨k1, rfl⟩ := cg_iff.1 h1
    obtain ⟨k2, rfl⟩ := cg_iff.1 h2
    exact ⟨cg_iff.2 ⟨-(k1 * t), by grind⟩, cg_iff.2 ⟨-(k2 * d), by grind⟩⟩
  · left
    obtain ⟨k1, rfl⟩ := cg_iff.1 h1
    obtain ⟨k2, rfl⟩ := cg_iff.1 h2
    exact ⟨cg_iff.2 ⟨-(k1 * t), by grind⟩, cg_iff.2 ⟨-(k2 * d), by grind⟩⟩
theorem Sg.congr {a b p q a' b' p' q' : Int} (h : Sg a b p q) (ha : a' % 1073741789 = a % 1073741789) (hb : b' % 1073741789 = b % 1073741789) (hp : p' % 1073741789 = p % 1073741789) (hq : q' % 1073741789 = q % 1073741789) : Sg a' b' p' q' := by
  have neg : ∀ {x y : Int}, x % 1073741789 = y % 1073741789 → (-x) % 1073741789 = (-y) % 1073741789 := fun h => by
    obtain ⟨k, rfl⟩ := cg_iff.1 h
    exact cg_iff.2 ⟨-k, by grind⟩
  rcases h with ⟨h1, h2⟩ | ⟨h1, h2⟩
  · left; exact ⟨by rw [ha, h1, hp], by rw [hb, h2, hq]⟩
  · right; exact ⟨by rw [ha, h1, neg hp], by rw [hb, h2, neg hq]⟩
theorem powZ_congr {a b : Int} (h : a % 1073741789 = b % 1073741789) : ∀ n : Nat, a ^ n % 1073741789 = b ^ n % 1073741789
  | 0 => by rw [Int.pow_zero, Int.pow_zero]
  | n + 1 => by rw [Int.pow_succ, Int.pow_succ, Int.mul_emod, powZ_congr h n, h, ← Int.mul_emod]
theorem neg_powZ (a : Int) : ∀ m : Nat, (-a) ^ (2 * m + 1) = -(a ^ (2 * m + 1))
  | 0 => by rw [show 2 * 0 + 1 = 1 from rfl, Int.pow_succ, Int.pow_succ, Int.pow_zero, Int.pow_zero, Int.one_mul, Int.one_mul]
  | m + 1 => by
    have ih := neg_powZ a m
    have e : 2 * (m + 1) + 1 = (2 * m + 1) + 1 + 1 := by omega
    rw [e, Int.pow_succ, Int.pow_succ, Int.pow_succ a (2 * m + 1 + 1), Int.pow_succ a (2 * m + 1), ih]
    simp [Int.neg_mul, Int.mul_neg]
def ex2 : Nat := 1073741787
theorem ex2_eq : ex2 = 2 * 536870893 + 1 := rfl
theorem pwQ_ex (a : Int) (ha : 0 ≤ a) : pwQ a 1073741787 = a ^ ex2 % 1073741789 := by
  unfold pwQ
  rw [show (1073741787 : Int).toNat = ex2 from rfl, Int.natCast_emod, Int.natCast_pow, Int.toNat_of_nonneg ha]
  rfl
theorem Sg.quot {a b p q : Int} (h : Sg a b p q) (hb : 0 ≤ b) (hq : 0 ≤ q) : (a * pwQ b 1073741787) % 1073741789 = (p * pwQ q 1073741787) % 1073741789 := by
  rw [pwQ_ex b hb, pwQ_ex q hq]
  rcases h with ⟨h1, h2⟩ | ⟨h1, h2⟩
  · rw [powZ_congr h2, Int.mul_emod, h1, ← Int.mul_emod]
  · rw [powZ_congr h2, ex2_eq, neg_powZ, ← ex2_eq, Int.mul_emod, h1, ← Int.mul_emod]
    obtain ⟨k1, e1⟩ := cg_mod (-(q ^ ex2))
    obtain ⟨k2, e2⟩ := cg_mod (q ^ ex2)
    rw [e1, e2]
    exact cg_iff.2 ⟨-(p * k1) - p * k2, by grind⟩

theorem nodup_length_le : ∀ (l m : List Nat), l.Nodup → (∀ a ∈ l, a ∈ m) → l.length ≤ m.length
  | [], _, _, _ => by simp
  | a :: t, m, hn, hs => by
    have ha : a ∈ m := hs a (by simp)
    rw [List.nodup_cons] at hn
    have := nodup_length_le t (m.erase a) hn.2 (fun b hb => (List.mem_erase_of_ne (fun (e : b = a) => hn.1 (e ▸ hb))).2 (hs b (by simp [hb])))
    have h2 := List.length_erase_of_mem ha
    have h3 := List.length_pos_of_mem ha
    simp; omega
theorem formed_le {l : List Sh} (h : formedS l) : l.length ≤ 24 := by
  have h1 : (l.map fun s => s.a.toNat).Nodup := by
    rw [List.Nodup, List.pairwise_map, List.pairwise_iff_getElem]
    intro i j hi hj hij he
    have hi' := (h.2 i hi).1
    have hj' := h.2 j hj
    have := hj'.2 i hij
    rw [List.getD_eq_getElem?_getD, List.getElem?_eq_getElem hi] at hi' this
    have h4 := hj'.1
    rw [List.getD_eq_getElem?_getD, List.getElem?_eq_getElem hj] at h4 this
    unfold shOK at hi' h4
    simp only [Option.getD_some] at *
    omega
  have := nodup_length_le _ (List.range' 1 24) h1 (fun a ha => by
    obtain ⟨s, hs, rfl⟩ := List.mem_map.1 ha
    obtain ⟨i, hi, rfl⟩ := List.getElem_of_mem hs
    have hi' := (h.2 i hi).1
    rw [List.getD_eq_getElem?_getD, List.getElem?_eq_getElem hi] at hi'
    unfold shOK at hi'
    simp only [Option.getD_some] at hi'
    rw [List.mem_range'_1]; omega)
  simpa using this
/-- the product of the other places -/
def pA (s : Sh) (l : List Sh) : Int := l.foldl (stepA s) 1
theorem pA_snoc (s : Sh) (l : List Sh) (t : Sh) : pA s (l ++ [t]) = stepA s (pA s l) t := by simp [pA]
theorem foldA_mul (s : Sh) : ∀ (l : List Sh) (c d v : Int), c % 1073741789 = (v * d) % 1073741789 → l.foldl (stepA s) c % 1073741789 = (v * l.foldl (stepA s) d) % 1073741789
  | [], c, d, v, h => h
  | t :: l, c, d, v, h => by
    rw [List.foldl_cons, List.foldl_cons]
    apply foldA_mul s l
    unfold stepA
    split
    · exact h
    · obtain ⟨k, rfl⟩ := cg_iff.1 h
      obtain ⟨k1, e1⟩ := cg_mod ((v * d + 1073741789 * k) * t.a)
      obtain ⟨k2, e2⟩ := cg_mod (d * t.a)
      rw [e1, e2]
      exact cg_iff.2 ⟨k1 + k * t.a - v * k2, by grind⟩
theorem above_pA (s : Sh) (l : List Sh) : aboveQ s l % 1073741789 = (s.v * pA s l) % 1073741789 := foldA_mul s l _ _ _ (by rw [Int.mul_one])
/-- the reference's inner loop -/
def RInv (s : Sh) (l : List Sh) (k : Nat) (a b : Int) : Prop := Sg a b (pA s (l.take k)) (belowQ s (l.take k))
theorem RInv.start (s : Sh) (l : List Sh) : RInv s l 0 1 1 := .inl ⟨by simp [pA], by simp [belowQ]⟩
theorem RInv.skip {s : Sh} {l : List Sh} {k : Nat} {a b : Int} (h : RInv s l k a b) (hk : k < l.length) (he : (l.getD k default).a = s.a) : RInv s l (k + 1) a b := by
  unfold RInv at *
  rw [take_snocS hk, pA_snoc, belowQ_snoc, stepA, stepB, if_pos he, if_pos he]
  exact h
theorem RInv.step {s : Sh} {l : List Sh} {k : Nat} {a b : Int} (h : RInv s l k a b) (hk : k < l.length) (he : (l.getD k default).a ≠ s.a) :
    RInv s l (k + 1) (a % 1073741789 * (-(l.getD k default).a % 1073741789) % 1073741789) (b % 1073741789 * ((s.a - (l.getD k default).a) % 1073741789) % 1073741789) := by
  unfold RInv at *
  rw [take_snocS hk, pA_snoc, belowQ_snoc, stepA, stepB, if_neg he, if_neg he]
  refine (h.step (t := (l.getD k default).a) (d := (l.getD k default).a - s.a)).congr ?_ ?_ ?_ ?_
  · rw [Int.emod_emod_of_dvd _ (Int.dvd_refl _), ← Int.mul_emod]
  · rw [Int.emod_emod_of_dvd _ (Int.dvd_refl _), ← Int.mul_emod, Int.neg_sub]
  · rw [Int.emod_emod_of_dvd _ (Int.dvd_refl _)]
  · rw [Int.emod_emod_of_dvd _ (Int.dvd_refl _), Int.mul_emod, Int.emod_emod_of_dvd _ (Int.dvd_refl _), ← Int.mul_emod]
theorem RInv.done {s : Sh} {l : List Sh} {a b R : Int} (h : RInv s l l.length a b) (hb : 0 ≤ b ∧ b < 1073741789) :
    (R + s.v % 1073741789 * (a % 1073741789 * (pwQ (b % 1073741789) 1073741787 % 1073741789) % 1073741789 % 1073741789) % 1073741789) % 1073741789 = stepR l R s := by
  unfold RInv at h
  rw [List.take_length] at h
  have hq := h.quot hb.1 (belowQ_bd s l).1
  have h1 := above_pA s l
  unfold stepR
  rw [Int.emod_eq_of_lt hb.1 hb.2]
  generalize pwQ b 1073741787 = B at *
  generalize pwQ (belowQ s l) 1073741787 = C at *
  generalize aboveQ s l = A at *
  generalize pA s l = Pl at *
  have e : (s.v % 1073741789 * (a % 1073741789 * (B % 1073741789) % 1073741789 % 1073741789)) % 1073741789 = (A * C) % 1073741789 := by
    have e1 : (a % 1073741789 * (B % 1073741789) % 1073741789 % 1073741789) % 1073741789 = (Pl * C) % 1073741789 := by
      rw [Int.emod_emod_of_dvd _ (Int.dvd_refl _), Int.emod_emod_of_dvd _ (Int.dvd_refl _), ← Int.mul_emod, hq]
    rw [Int.mul_emod, e1, Int.emod_emod_of_dvd _ (Int.dvd_refl _), ← Int.mul_emod, ← Int.mul_assoc, Int.mul_emod, ← h1, ← Int.mul_emod]
  rw [e, Int.add_emod, Int.emod_emod_of_dvd _ (Int.dvd_refl _), ← Int.add_emod]
end Fk

/-! Numbers modulo Q as a field; Lagrange's interpolation at 0. -/
namespace Fk
abbrev FQ := Fin 1073741789
def toF (a : Int) : FQ := ⟨(a % 1073741789).toNat, by omega⟩
theorem toF_iff {a b : Int} : toF a = toF b ↔ a % 1073741789 = b % 1073741789 := by
  unfold toF; rw [Fin.mk.injEq]; omega
theorem toF_mod (a : Int) : toF (a % 1073741789) = toF a := toF_iff.2 (by omega)
theorem toF_add (a b : Int) : toF (a + b) = toF a + toF b := by
  apply Fin.ext
  show ((a + b) % 1073741789).toNat = ((a % 1073741789).toNat + (b % 1073741789).toNat) % 1073741789
  omega
theorem toF_mul (a b : Int) : toF (a * b) = toF a * toF b := by
  apply Fin.ext
  show ((a * b) % 1073741789).toNat = ((a % 1073741789).toNat * (b % 1073741789).toNat) % 1073741789
  have e : (((a % 1073741789).toNat * (b % 1073741789).toNat % 1073741789 : Nat) : Int) = (a * b) % 1073741789 := by
    rw [Int.natCast_emod, Int.natCast_mul, Int.toNat_of_nonneg (by omega), Int.toNat_of_nonneg (by omega)]
    rw [Int.mul_emod a b]; rfl
  omega
theorem toF_zero : toF 0 = 0 := rfl
theorem toF_one : toF 1 = 1 := rfl
theorem toF_neg (a : Int) : toF (-a) = - toF a := by
  have h := toF_add a (-a)
  rw [Int.add_right_neg, toF_zero] at h
  grind
theorem toF_sub (a b : Int) : toF (a - b) = toF a - toF b := by
  rw [Int.sub_eq_add_neg, toF_add, toF_neg]; grind
theorem toF_eq0 {a : Int} : toF a = 0 ↔ a % 1073741789 = 0 := by
  rw [← toF_zero, toF_iff]; omega
theorem toF_val {a : Int} (h : 0 ≤ a) (h' : a < 1073741789) : (((toF a).val : Nat) : Int) = a := by
  show (((a % 1073741789).toNat : Nat) : Int) = a
  omega

def ex1 : Nat := 1073741788
def exh : Nat := 536870894
theorem fermat_gen {p a h : Nat} (hp : IsP p) (ho : p % 2 = 1) (ha : a % p ≠ 0) (h2 : 2 < p) (hh : p / 2 = h) : a ^ (h + h) % p = 1 := by
  have he := euler hp ho ha
  rw [hh] at he
  rw [Nat.pow_add, Nat.mul_mod, he]
  cases jac a p
  · obtain ⟨q, rfl⟩ : ∃ q, p = q + 2 := ⟨p - 2, by omega⟩
    have e : (q + 2 - 1) * (q + 2 - 1) = 1 + (q + 2) * q := by
      have e1 : q + 2 - 1 = q + 1 := by omega
      rw [e1]; grind
    simp only [Bool.false_eq_true, if_false]
    rw [e, Nat.add_mul_mod_self_left, Nat.mod_eq_of_lt (by omega)]
  · simp only [if_true]
    rw [Nat.mod_eq_of_lt (by omega)]
theorem fermat {a : Nat} (h : a % 1073741789 ≠ 0) : a ^ ex1 % 1073741789 = 1 := by
  have e : ex1 = exh + exh := rfl
  rw [e]
  exact fermat_gen isP_Q (by omega) h (by omega) rfl
/-- the inverse -/
def invF (a : FQ) : FQ := toF (pwQ (a.val : Int) 1073741787)
theorem mul_invF {a : FQ} (h : a ≠ 0) : a * invF a = 1 := by
  have hv : a.val % 1073741789 ≠ 0 := by
    rw [Nat.mod_eq_of_lt a.isLt]
    intro hc; exact h (Fin.ext hc)
  have h1 := fermat hv
  have h2 : pwQ (a.val : Int) 1073741787 = ((a.val ^ ex2 % 1073741789 : Nat) : Int) := rfl
  have e : a = toF (a.val : Int) := by
    apply Fin.ext; show a.val = ((a.val : Int) % 1073741789).toNat
    have := a.isLt; omega
  unfold invF
  conv => lhs; lhs; rw [e]
  rw [← toF_mul, ← toF_one]
  refine toF_iff.2 ?_
  rw [h2]
  have h3 : a.val * (a.val ^ ex2 % 1073741789) % 1073741789 = 1 := by
    rw [Nat.mul_mod_mod, Nat.mul_comm, ← Nat.pow_succ]; exact h1
  rw [← Int.natCast_mul]
  omega
theorem toF_pw {a : Int} (h : 0 ≤ a) (h' : a < 1073741789) : toF (pwQ a 1073741787) = invF (toF a) := by
  unfold invF; rw [toF_val h h']
theorem mul0F {a b : FQ} (h : a * b = 0) : a = 0 ∨ b = 0 := by
  by_cases ha : a = 0
  · exact .inl ha
  · have := mul_invF ha
    right
    grind
theorem invF_mul {a b : FQ} (ha : a ≠ 0) (hb : b ≠ 0) : invF (a * b) = invF a * invF b := by
  have h1 := mul_invF ha
  have h2 := mul_invF hb
  have h3 := mul_invF (a := a * b) (fun h => (mul0F h).elim ha hb)
  generalize invF a = u at *
  generalize invF b = v at *
  generalize invF (a * b) = t at *
  have : t * (a * u) * (b * v) = u * v * (a * b * t) := by grind
  rw [h1, h2, h3] at this
  grind
theorem invF_one : invF 1 = 1 := by
  have h := mul_invF (a := 1) (by decide)
  grind

/-! ### interpolation at 0 -/
def WF (b : FQ) : List FQ → FQ
  | [] => 1
  | t :: r => if t = b then WF b r else t * invF (t - b) * WF b r
def LF (f : FQ → FQ) (T : List FQ) : List FQ → FQ
  | [] => 0
  | b :: r => f b * WF b T + LF f T r
theorem LF_lin (f g : FQ → FQ) (c d : FQ) (T : List FQ) : ∀ S, LF (fun x => c * f x + d * g x) T S = c * LF f T S + d * LF g T S
  | [] => by simp only [LF]; grind
  | b :: r => by simp only [LF]; rw [LF_lin f g c d T r]; grind
theorem LF_congr {f g : FQ → FQ} {T : List FQ} : ∀ S, (∀ b, b ∈ S → f b = g b) → LF f T S = LF g T S
  | [], _ => rfl
  | b :: r, h => by
    simp only [LF]
    rw [h b (by simp), LF_congr r (fun c hc => h c (by simp [hc]))]
theorem LF_W {f : FQ → FQ} {T T' : List FQ} : ∀ S, (∀ b, WF b T = WF b T') → LF f T S = LF f T' S
  | [], _ => rfl
  | b :: r, h => by
    simp only [LF]
    rw [h b, LF_W r h]
theorem WF_swap (x a b : FQ) (T : List FQ) : WF x (a :: b :: T) = WF x (b :: a :: T) := by
  simp only [WF]
  split <;> split <;> grind
theorem LF_swap (f : FQ → FQ) (a b : FQ) (T : List FQ) : LF f (a :: b :: T) (a :: b :: T) = LF f (b :: a :: T) (b :: a :: T) := by
  rw [LF_W (T := a :: b :: T) (T' := b :: a :: T) _ (fun x => WF_swap x a b T)]
  simp only [LF]; grind
theorem LF_B (a : FQ) (q : FQ → FQ) (T : List FQ) : ∀ S, (∀ b, b ∈ S → b ≠ a) → LF (fun x => (x - a) * q x) (a :: T) S = - a * LF q T S
  | [], _ => by simp only [LF]; grind
  | b :: r, h => by
    have ih := LF_B a q T r (fun c hc => h c (by simp [hc]))
    simp only [LF]
    rw [ih]
    have hab : a ≠ b := fun e => h b (by simp) e.symm
    have h1 : a - b ≠ 0 := fun e => hab (by grind)
    have h2 := mul_invF h1
    have e : WF b (a :: T) = a * invF (a - b) * WF b T := by simp only [WF]; rw [if_neg hab]
    rw [e]
    generalize invF (a - b) = u at *
    generalize WF b T = y
    generalize LF q T r = z
    generalize q b = v
    have : (b - a) * u = -1 := by grind
    have e2 : (b - a) * v * (a * u * y) = (b - a) * u * (v * a * y) := by grind
    rw [e2, this]
    grind
theorem L_B (a : FQ) (q : FQ → FQ) (S : List FQ) (h : ∀ b, b ∈ S → b ≠ a) : LF (fun x => (x - a) * q x) (a :: S) (a :: S) = - a * LF q S S := by
  have := LF_B a q S S h
  show (a - a) * q a * _ + _ = _
  rw [this]; grind
theorem L_one : ∀ (n : Nat) (S : List FQ), S.length = n + 1 → S.Nodup → LF (fun _ => 1) S S = 1
  | 0, S, h, _ => by
    match S, h with
    | [a], _ => simp only [LF, WF]; simp
  | n + 1, S, h, hn => by
    match S, h with
    | a :: b :: R, h =>
      rw [List.nodup_cons, List.nodup_cons] at hn
      obtain ⟨h1, h2, h3⟩ := hn
      have ha : ∀ x, x ∈ b :: R → x ≠ a := fun x hx e => h1 (e ▸ hx)
      have hb : ∀ x, x ∈ a :: R → x ≠ b := fun x hx e => by
        subst e
        rw [List.mem_cons] at hx
        rcases hx with hx | hx
        · exact h1 (by rw [hx]; simp)
        · exact h2 hx
      have i1 := L_one n (b :: R) (by simp at h ⊢; omega) (List.nodup_cons.2 ⟨h2, h3⟩)
      have i2 := L_one n (a :: R) (by simp at h ⊢; omega) (List.nodup_cons.2 ⟨fun hc => h1 (by simp [hc]), h3⟩)
      have e1 := L_B a (fun _ => 1) (b :: R) ha
      have e2 := L_B b (fun _ => 1) (a :: R) hb
      rw [i1] at e1
      rw [i2, ← LF_swap] at e2
      have e3 := LF_lin (fun x => (x - a) * 1) (fun x => (x - b) * 1) 1 (-1) (a :: b :: R) (a :: b :: R)
      have e4 := LF_lin (fun _ => 1) (fun _ => 1) (b - a) 0 (a :: b :: R) (a :: b :: R)
      rw [LF_congr (g := fun x => 1 * ((x - a) * 1) + -1 * ((x - b) * 1)) _ (fun x _ => by grind), e3, e1, e2] at e4
      have hab : b - a ≠ 0 := fun e => ha b (by simp) (by grind)
      have h5 := mul_invF hab
      generalize LF (fun _ => 1) (a :: b :: R) (a :: b :: R) = z at *
      generalize invF (b - a) = u at *
      have e5 : (b - a) * z = b - a := by grind
      have e6 : (b - a) * u * z = (b - a) * u := by grind
      rw [h5] at e6
      grind
def ev : List FQ → FQ → FQ
  | [], _ => 0
  | c :: r, x => c + x * ev r x
def dv (a : FQ) : List FQ → List FQ
  | [] => []
  | [_] => []
  | _ :: c :: r => ev (c :: r) a :: dv a (c :: r)
theorem dv_length (a : FQ) : ∀ p : List FQ, (dv a p).length = p.length - 1
  | [] => rfl
  | [_] => rfl
  | _ :: c :: r => by
    have := dv_length a (c :: r)
    simp only [dv, List.length_cons] at *
    omega
theorem dv_ev (a x : FQ) : ∀ p : List FQ, ev p x = ev p a + (x - a) * ev (dv a p) x
  | [] => by simp only [ev, dv]; grind
  | [c] => by simp only [ev, dv]; grind
  | d :: c :: r => by
    have ih := dv_ev a x (c :: r)
    have e1 : ev (d :: c :: r) x = d + x * ev (c :: r) x := rfl
    have e2 : ev (d :: c :: r) a = d + a * ev (c :: r) a := rfl
    have e3 : ev (dv a (d :: c :: r)) x = ev (c :: r) a + x * ev (dv a (c :: r)) x := rfl
    rw [e1, e2, e3, ih]
    grind
theorem LF_zero (T : List FQ) : ∀ S, LF (fun _ => 0) T S = 0
  | [] => rfl
  | b :: r => by simp only [LF]; rw [LF_zero T r]; grind
theorem lagrange : ∀ (n : Nat) (p S : List FQ), p.length ≤ n → p.length ≤ S.length → 0 < S.length → S.Nodup → LF (ev p) S S = ev p 0
  | n, [], S, _, _, _, _ => by
    exact LF_zero S S
  | n, [c], S, _, _, hS, hn => by
    have h1 := L_one (S.length - 1) S (by omega) hn
    have h2 := LF_lin (fun _ => 1) (fun _ => 1) c 0 S S
    rw [LF_congr (g := fun x => c * 1 + 0 * 1) _ (fun x _ => by simp only [ev]; grind), h2, h1]
    simp only [ev]; grind
  | 0, _ :: _ :: _, _, h, _, _, _ => by simp at h
  | n + 1, d :: c :: r, S, h, hl, hS, hn => by
    match S, hl, hS with
    | a :: S', hl, _ =>
      have hl' : (c :: r).length ≤ S'.length := by simp at hl ⊢; omega
      have ih := lagrange n (dv a (d :: c :: r)) S' (by rw [dv_length]; simp at h ⊢; omega) (by rw [dv_length]; exact hl') (by simp at hl'; omega) (List.nodup_cons.1 hn).2
      have h1 := L_one S'.length (a :: S') rfl hn
      have h2 := L_B a (ev (dv a (d :: c :: r))) S' (fun b hb e => (List.nodup_cons.1 hn).1 (e ▸ hb))
      have h3 := LF_lin (fun _ => 1) (fun x => (x - a) * ev (dv a (d :: c :: r)) x) (ev (d :: c :: r) a) 1 (a :: S') (a :: S')
      have e0 := dv_ev a 0 (d :: c :: r)
      rw [LF_congr (g := fun x => ev (d :: c :: r) a * 1 + 1 * ((x - a) * ev (dv a (d :: c :: r)) x)) _ (fun x _ => by have := dv_ev a x (d :: c :: r); grind), h3, h1, h2, ih, e0]
      grind
end Fk

namespace Go.Proofs.YthboebhghaabnaaDoor
open Go.RowKit Fk

set_option maxHeartbeats 400000 in
theorem refpower_nat (a n : Nat) (ha : a < 2147483579) (hn : n < 2147483579) (w : World) :
    Calls Tryd.prog 61 #[.int .i64 a, .int .i64 n] w fun e w' => e = .returned (.int .i64 ((a ^ n % 2147483579 : Nat) : Int)) ∧ w = w' := by
  go_enter Tryd.func61, Tryd.ntmps61
  go_wp2
  go_loopg [0, 1, 5] n (fun k x m c wr => w = wr ∧ ∃ (x' c' : Nat), x = .int .i64 x' ∧ m = .int .i64 k ∧ c = .int .i64 c' ∧ k < 2147483579 ∧ x' < 2147483579 ∧ c' < 2147483579 ∧ PInv a n c' x' k)
  case atStart => exact ⟨rfl, a, 1, rfl, rfl, rfl, hn, ha, by omega, PInv.start a n⟩
  case round =>
    obtain ⟨rfl, x', c', rfl, rfl, rfl, b1, b2, b3, hI⟩ := hrel
    have m1 : c' * x' ≤ 2147483579 * 2147483579 := Nat.mul_le_mul (by omega) (by omega)
    have m2 : x' * x' ≤ 2147483579 * 2147483579 := Nat.mul_le_mul (by omega) (by omega)
    have m3 : (c' : Int) * x' = ((c' * x' : Nat) : Int) := by simp
    have m4 : (x' : Int) * x' = ((x' * x' : Nat) : Int) := by simp
    have m5 : 0 ≤ (c' : Int) * x' := by omega
    have m6 : 0 ≤ (x' : Int) * x' := by omega
    have m7 : (c' : Int) * x' ≤ 2147483579 * 2147483579 := by omega
    have m8 : (x' : Int) * x' ≤ 2147483579 * 2147483579 := by omega
    by_cases hk : 0 < gk
    · by_cases ho : gk % 2 = 1
      · have hI2 := PInv.odd hI ho
        have t1 : ((gk : Int) % 2 == 1) = true := by simp; omega
        clear hI ho m3 m4
        go_wp2
        go_roundg (gk / 2)
        case measure => omega
        case rel => exact ⟨rfl, x' * x' % 2147483579, c' * x' % 2147483579, by go_num, by go_num, by go_num, by omega, Nat.mod_lt _ (by omega), Nat.mod_lt _ (by omega), hI2⟩
      · have hI2 := PInv.even hI ho
        have t1 : ((gk : Int) % 2 == 1) = false := by simp; omega
        clear hI ho m3 m4
        go_wp2
        go_roundg (gk / 2)
        case measure => omega
        case rel => exact ⟨rfl, x' * x' % 2147483579, c', by go_num, by go_num, rfl, by omega, Nat.mod_lt _ (by omega), by omega, hI2⟩
    · obtain rfl : gk = 0 := by omega
      have hI2 := PInv.done hI b3
      clear hI m3 m4
      go_wp2
      go_ret
      exact ⟨ret_int (by rw [hI2]), rfl⟩
theorem refpower_any (a n : Int) (h1 : 0 ≤ a) (h2 : a < 2147483579) (h3 : 0 ≤ n) (h4 : n < 2147483579) (w : World) :
    Calls Tryd.prog 61 #[.int .i64 a, .int .i64 n] w fun e w' => e = .returned (.int .i64 (pwr a n)) ∧ w = w' := by
  have := refpower_nat a.toNat n.toNat (by omega) (by omega) w
  rw [Int.toNat_of_nonneg h1, Int.toNat_of_nonneg h3] at this
  exact this

set_option maxHeartbeats 400000 in
theorem refvalid_any (x : Int) (w : World) :
    Calls Tryd.prog 30 #[.int .i64 x] w fun e w' => e = .returned (.bool (vld x)) ∧ w = w' := by
  by_cases h1 : 1 ≤ x
  · by_cases h2 : x < 2147483579
    · rw [vld_pow h1 h2]
      go_enter Tryd.func30, Tryd.ntmps30
      go_wp2_with (go_at_call 61; refine (refpower_any _ _ (by omega) (by omega) (by omega) (by omega) _).mono ?_; rintro e w' ⟨rfl, rfl⟩)
      go_ret
      exact ⟨rfl, rfl⟩
    · rw [vld_out (by omega)]
      go_enter Tryd.func30, Tryd.ntmps30
      go_wp2
      go_ret
      exact ⟨rfl, rfl⟩
  · rw [vld_out (by omega)]
    go_enter Tryd.func30, Tryd.ntmps30
    go_wp2
    go_ret
    exact ⟨rfl, rfl⟩

end Go.Proofs.YthboebhghaabnaaDoor

set_option linter.unusedSimpArgs false
set_option linter.unusedVariables false
namespace Go.Proofs.YthboebhghaabnaaDoor
open Go.RowKit Fk Sha
/-! What is noticed, in plain words. -/
theorem nt_powC_mod {a n m : Int} (h : n % 1073741789 = m % 1073741789) : powC a n = powC a m := by unfold powC; rw [h]
theorem nt_powC_1 {a : Int} (ha : vld a = true) : powC a 1 = a := by
  obtain ⟨A, rfl, _, h, hA⟩ := nat_vld ha
  rw [powC_of ha hA (n := 1) (m := 1) (by omega), Nat.pow_one, Nat.mod_eq_of_lt h]
theorem nt_inv_nat {a : Nat} (h : a % 1073741789 ≠ 0) : a * (a ^ 1073741787 % 1073741789) % 1073741789 = 1 := by
  have e : 1073741787 = ex2 := rfl
  rw [e, Nat.mul_mod_mod, Nat.mul_comm, ← Nat.pow_succ]
  exact fermat h
theorem nt_inv_int {r : Int} (h : r % 1073741789 ≠ 0) : ∃ c : Int, (r * c) % 1073741789 = 1 := by
  obtain ⟨a, ha, hl⟩ : ∃ a : Nat, r % 1073741789 = (a : Int) ∧ a < 1073741789 := ⟨(r % 1073741789).toNat, by omega, by omega⟩
  have h1 := nt_inv_nat (a := a) (by omega)
  generalize a ^ 1073741787 % 1073741789 = c at *
  refine ⟨(c : Int), ?_⟩
  rw [Int.mul_emod, show r % 1073741789 = ((a % 1073741789 : Nat) : Int) by omega, show ((c : Int)) % 1073741789 = ((c % 1073741789 : Nat) : Int) by omega, ← Int.natCast_mul]
  have h2 : a % 1073741789 * (c % 1073741789) % 1073741789 = 1 := by rw [← Nat.mul_mod]; exact h1
  omega
/-- powers to one exponent that is not 0 -/
theorem nt_base {a b r : Int} (ha : vld a = true) (hb : vld b = true) (hr : r % 1073741789 ≠ 0) (h : powC a r = powC b r) : a = b := by
  obtain ⟨c, hc⟩ := nt_inv_int hr
  have h1 : powC (powC a r) c = powC (powC b r) c := by rw [h]
  rw [pow_mul' ha, pow_mul' hb, nt_powC_mod (m := 1) (by omega), nt_powC_mod (a := b) (m := 1) (by omega), nt_powC_1 ha, nt_powC_1 hb] at h1
  exact h1
theorem nt_cancel {a x y : Int} (ha : vld a = true) (hx : vld x = true) (hy : vld y = true) (h : mulC a x = mulC a y) : x = y := by
  have hi := vld_powC ha (-1)
  have e : ∀ z, vld z = true → mulC (powC a (-1)) (mulC a z) = z := fun z hz => by
    rw [← mul_assoc' hi ha hz]
    have : mulC (powC a (-1)) a = 1 := by
      conv => lhs; rw [← nt_powC_1 ha]
      rw [nt_powC_1 ha]
      have := pow_add' ha (-1) 1
      rw [nt_powC_1 ha] at this
      rw [this]
      exact pow_0 ha
    rw [this, mul_comm' vld_1 hz, mul_one' hz]
  rw [← e x hx, ← e y hy, h]
def ngT (a : Tr) : Tr := ⟨-a.p, -a.q, -a.r⟩
theorem ngT_get (a : Tr) (i : Nat) : (ngT a).get i = -a.get i := by
  unfold ngT Tr.get
  rcases i with _ | _ | i <;> rfl
theorem nt_more0 {key : Int} (hk : vld key = true) {c : Ci} (hc : okC c = true) (a : Tr) (i : Nat) : moreC key (addT a (ngT a)) i c = c := by
  obtain ⟨ha, hb⟩ := okC_iff.1 hc
  unfold moreC
  rw [addT_get, ngT_get, show a.get i + -a.get i = 0 by omega, hn_times0 vld_4 ha, hn_times0 hk hb]
theorem nt_map0 {key : Int} (hk : vld key = true) {s : Se} (hs : okS s = true) (a : Tr) : s.map (moreC key (addT a (ngT a))) = s := by
  obtain ⟨h1, h2, h3⟩ := okS_iff.1 hs
  unfold Se.map
  rw [nt_more0 hk h1, nt_more0 hk h2, nt_more0 hk h3]
theorem nt_inj {key : Int} (hk : vld key = true) {s u : Se} (hs : okS s = true) (hu : okS u = true) (a : Tr) (h : againC key s a = againC key u a) : s = u := by
  rw [(again_ok' hk hs a).1, (again_ok' hk hu a).1] at h
  rw [← nt_map0 hk hs a, ← nt_map0 hk hu a, ← hn_map hk hs, ← hn_map hk hu, h]
section
variable {key : Int} {s : List Se} {t : Tn} {k : Nat} {other : Se}
/-- a letter of Out was replaced -/
theorem nt_out {bits : List Int} (hk : vld key = true) (hs : s.all okS = true) (hr : rightB t s.length = true) (hl : bits.length = s.length) (hb : bits.all bitB = true) (h1 : ∀ j, j < s.length → bits.getD j default = 1) (hkn : k < s.length)
    (hne : other ≠ (mixTo key s t s.length).o.getD k default) : checkB key { mixTo key s t s.length with o := (mixTo key s t s.length).o.set k other } bits (openTo t bits bits.length) = false := by
  rw [Bool.eq_false_iff]
  intro hc
  have hC := checkB_iff.1 hc
  have hH := checkB_iff.1 (hon_check hk hs hr hl hb)
  obtain ⟨e1, e2, e3, e4, e5, e6, e7, e8⟩ := rightB_facts hr
  obtain ⟨j, hj, e⟩ := permB_onto e8 (k := k) (by omega)
  have hj' : j < s.length := by omega
  have hbj := h1 j hj'
  have f1 := (fitsB_iff.1 (hC.fit j hj')).ends
  have f2 := (fitsB_iff.1 (hH.fit j hj')).ends
  rw [openTo_get bits (by omega), hbj, if_neg (by decide)] at f1 f2
  have ha : (ogAt t j 1).a.toNat = k := by show (t.r.getD j default).toNat = k; rw [e]; rfl
  rw [ha] at f1 f2
  have hol : (mixTo key s t s.length).o.length = s.length := layTo_length _ _ _ _ _
  have f3 : againC key ((mixTo key s t s.length).m.getD j default) (ogAt t j 1).r = ((mixTo key s t s.length).o.set k other).getD k default := f1
  rw [getD_set (by omega), if_pos rfl] at f3
  exact hne (f3.symm.trans f2)
/-- a letter of Mid was replaced, left halves are opened -/
theorem nt_midL {bits : List Int} (hk : vld key = true) (hs : s.all okS = true) (hr : rightB t s.length = true) (hl : bits.length = s.length) (hb : bits.all bitB = true) (h0 : ∀ j, j < s.length → bits.getD j default = 0) (hkn : k < s.length)
    (hne : other ≠ (mixTo key s t s.length).m.getD k default) : checkB key { mixTo key s t s.length with m := (mixTo key s t s.length).m.set k other } bits (openTo t bits bits.length) = false := by
  rw [Bool.eq_false_iff]
  intro hc
  have hC := checkB_iff.1 hc
  have hH := checkB_iff.1 (hon_check hk hs hr hl hb)
  have hbj := h0 k hkn
  have f1 := (fitsB_iff.1 (hC.fit k hkn)).ends
  have f2 := (fitsB_iff.1 (hH.fit k hkn)).ends
  rw [openTo_get bits (by omega), hbj, if_pos rfl] at f1 f2
  have hml : (mixTo key s t s.length).m.length = s.length := by rw [hon_m]; simp
  have f3 : againC key ((mixTo key s t s.length).i.getD (ogAt t k 0).a.toNat default) (ogAt t k 0).r = ((mixTo key s t s.length).m.set k other).getD k default := f1
  rw [getD_set (by omega), if_pos rfl] at f3
  exact hne (f3.symm.trans f2)
/-- a letter of Mid was replaced, right halves are opened -/
theorem nt_midR {bits : List Int} (hk : vld key = true) (hs : s.all okS = true) (hr : rightB t s.length = true) (hl : bits.length = s.length) (hb : bits.all bitB = true) (h1 : ∀ j, j < s.length → bits.getD j default = 1) (hkn : k < s.length) (hot : okS other = true)
    (hne : other ≠ (mixTo key s t s.length).m.getD k default) : checkB key { mixTo key s t s.length with m := (mixTo key s t s.length).m.set k other } bits (openTo t bits bits.length) = false := by
  rw [Bool.eq_false_iff]
  intro hc
  have hC := checkB_iff.1 hc
  have hH := checkB_iff.1 (hon_check hk hs hr hl hb)
  have hbj := h1 k hkn
  have f1 := (fitsB_iff.1 (hC.fit k hkn)).ends
  have f2 := (fitsB_iff.1 (hH.fit k hkn)).ends
  rw [openTo_get bits (by omega), hbj, if_neg (by decide)] at f1 f2
  have hml : (mixTo key s t s.length).m.length = s.length := by rw [hon_m]; simp
  have f3 : againC key (((mixTo key s t s.length).m.set k other).getD k default) (ogAt t k 1).r = (mixTo key s t s.length).o.getD (ogAt t k 1).a.toNat default := f1
  rw [getD_set (by omega), if_pos rfl] at f3
  refine hne (nt_inj hk hot ?_ _ (f3.trans f2.symm))
  rw [hon_mid hkn]
  exact hon_okm hk hs hr hkn
/-- another key -/
theorem nt_key {second : Int} {bits : List Int} (hk : vld key = true) (h2 : vld second = true) (hs : s.all okS = true) (hr : rightB t s.length = true) (hl : bits.length = s.length) (hb : bits.all bitB = true) (h0 : ∀ j, j < s.length → bits.getD j default = 0) {j : Nat} (hj : j < s.length)
    (hm : (t.rl.getD j default).p % 1073741789 ≠ 0) (hne : key ≠ second) : checkB second (mixTo key s t s.length) bits (openTo t bits bits.length) = false := by
  rw [Bool.eq_false_iff]
  intro hc
  have hC := checkB_iff.1 hc
  have hH := checkB_iff.1 (hon_check hk hs hr hl hb)
  have hbj := h0 j hj
  have f1 := (fitsB_iff.1 (hC.fit j hj)).ends
  have f2 := (fitsB_iff.1 (hH.fit j hj)).ends
  rw [openTo_get bits (by omega), hbj, if_pos rfl] at f1 f2
  obtain ⟨e1, e2, e3, e4, e5, e6, e7, e8⟩ := rightB_facts hr
  have hat := permB_at e7 (k := j) (by omega)
  have ho : okS ((mixTo key s t s.length).i.getD (ogAt t j 0).a.toNat default) = true := by
    show okS (s.getD (t.l.getD j default).toNat default) = true
    exact List.all_eq_true.1 hs _ (mem_getD (by omega))
  have f3 := f1.trans f2.symm
  generalize (mixTo key s t s.length).i.getD (ogAt t j 0).a.toNat default = S at *
  rw [(again_ok' h2 ho _).1, (again_ok' hk ho _).1] at f3
  have f4 : (moreC second (ogAt t j 0).r 0 S.x).b = (moreC key (ogAt t j 0).r 0 S.x).b := congrArg (fun z : Se => z.x.b) f3
  obtain ⟨o1, _, _⟩ := okS_iff.1 ho
  have ob := (okC_iff.1 o1).2
  have f5 : S.x.b * powC second (t.rl.getD j default).p % 2147483579 = S.x.b * powC key (t.rl.getD j default).p % 2147483579 := f4
  rw [mul_in ob (vld_powC h2 _), mul_in ob (vld_powC hk _)] at f5
  exact hne (nt_base h2 hk hm (nt_cancel ob (vld_powC h2 _) (vld_powC hk _) f5)).symm
end
end Go.Proofs.YthboebhghaabnaaDoor

set_option linter.unusedSimpArgs false
set_option linter.unusedVariables false
namespace Go.Proofs.YthboebhghaabnaaDoor
open Go.RowKit Fk Sha
/-! The references that ShuffleNoticed asks first: Check, Formed. -/
set_option maxHeartbeats 1000000 in
theorem rcheck_any (s : Se) (w : World) :
    Calls Tryd.prog 33 #[s.val] w fun e w' => e = .returned (.int .i64 (chS s)) ∧ Below w.heap.size w w' := by
  have hR0 : RowS (w.alloc (.cells s.cells.toArray 68)) w.heap.size s := Row.new w _ _
  have HR := Lib.hid hR0
  clear hR0
  unfold Se.val
  go_enter Tryd.func33, Tryd.ntmps33
  go_wp2_with fail
  have hB := below_alloc w (.cells s.cells.toArray 68)
  obtain ⟨W1, hW1⟩ : ∃ W1 : World, w.alloc (.cells #[.int .i64 s.x.a, .int .i64 s.x.b, .int .i64 s.y.a, .int .i64 s.y.b, .int .i64 s.z.a, .int .i64 s.z.b] 68) = W1 := ⟨_, rfl⟩
  rw [hW1]
  replace HR : Hid (RowS W1 w.heap.size s) := by rw [← hW1]; exact HR
  replace hB : Below w.heap.size w W1 := by rw [← hW1]; exact hB
  clear hW1
  go_loopg [3] 3 (fun g i wr => W1 = wr ∧ ∃ k : Nat, i = .int .i64 k ∧ k + g = 3 ∧ Hid (∀ i, i < k → okC (s.get i) = true))
  case atStart => exact ⟨rfl, 0, rfl, by omega, fun i hi => by omega⟩
  case round =>
    obtain ⟨rfl, k, rfl, hk, h4⟩ := hrel
    by_cases hlt : k < 3
    · have c1 := HR.out.ca hlt
      have c2 := HR.out.cb hlt
      have hok : okC (s.get k) = (vld (s.get k).a && vld (s.get k).b) := rfl
      have hbad := okS_bad (s := s) (i := k)
      obtain ⟨c, hsk⟩ : ∃ c, s.get k = c := ⟨_, rfl⟩
      rw [hsk] at c1 c2 hok hbad
      have hall : okC c = true → ∀ i, i < k + 1 → okC (s.get i) = true := fun hc i hi => by
        by_cases e : i = k
        · rw [e, hsk]; exact hc
        · exact h4.out i (by omega)
      have H4 := Lib.hid hall
      have HB := Lib.hid hbad
      have HO := Lib.hid hok
      have s5 : (0 : Int) ≤ k := by omega
      have s6 : (k : Int) < 3 := by omega
      clear hall hsk h4 hbad hok
      by_cases ha : vld c.a = true ∧ vld c.b = true
      · obtain ⟨ha, hb⟩ := ha
        go_wp2_with (go_at_call 30; refine (refvalid_any _ _).mono ?_; rintro e w' ⟨rfl, rfl⟩)
        go_roundg (gk - 1)
        case measure => omega
        case rel => exact ⟨rfl, k + 1, by go_num, by omega, H4.out (by rw [HO.out, ha, hb]; rfl)⟩
      · have hf : chS s = 100 := by unfold chS; rw [HB.out (by rw [HO.out]; cases hva : vld c.a <;> cases hvb : vld c.b <;> simp_all)]; rfl
        have HF := Lib.hid hf
        clear hf
        cases hva : vld c.a with
        | true =>
          have hvb : vld c.b = false := by cases hvb : vld c.b <;> simp_all
          clear ha
          go_wp2_with (go_at_call 30; refine (refvalid_any _ _).mono ?_; rintro e w' ⟨rfl, rfl⟩)
          go_ret
          exact ⟨ret_int HF.out.symm, hB⟩
        | false =>
          clear ha
          go_wp2_with (go_at_call 30; refine (refvalid_any _ _).mono ?_; rintro e w' ⟨rfl, rfl⟩)
          go_ret
          exact ⟨ret_int HF.out.symm, hB⟩
    · obtain rfl : k = 3 := by omega
      have hf : chS s = 0 := by unfold chS; rw [if_pos (okS_all h4.out)]
      have HF := Lib.hid hf
      clear hf h4
      go_wp2_with fail
      go_ret
      exact ⟨ret_int HF.out.symm, hB⟩
theorem form_no {l : List Se} {k : Nat} (hk : k < l.length) (h : okS (l.getD k default) = false) : l.all okS = false := by
  rw [Bool.eq_false_iff]
  intro ha
  have := List.all_eq_true.1 ha _ (mem_getD hk)
  rw [h] at this; cases this
theorem form_yes {l : List Se} (h : ∀ j, j < l.length → okS (l.getD j default) = true) : l.all okS = true := by
  rw [List.all_eq_true]
  intro x hx
  obtain ⟨i, hi, rfl⟩ := List.getElem_of_mem hx
  have := h i hi
  rwa [getD_eq_getElem' hi] at this
set_option maxRecDepth 100000 in
set_option maxHeartbeats 1000000 in
theorem rformed10_any (l : List Se) (v : Value) (w : World) (h : SlS w w.heap.size v l) :
    Calls Tryd.prog 31 #[v] w fun e w' => e = .returned (.bool (l.all okS)) ∧ Below w.heap.size w w' := by
  have HS := Lib.hid h
  obtain ⟨hlen, A, c, rfl, _⟩ := h
  go_enter Tryd.func31, Tryd.ntmps31
  go_wp2
  go_loopg [3] l.length (fun g i wr => Below w.heap.size w wr ∧ ∃ k : Nat, i = .int .i64 k ∧ k + g = l.length ∧ ∀ j, j < k → okS (l.getD j default) = true)
  case atStart => exact ⟨Below.refl _ _, 0, rfl, by omega, fun j hj => by omega⟩
  case round =>
    obtain ⟨hBr, k, rfl, hk, hgood⟩ := hrel
    by_cases hlt : k < l.length
    · obtain ⟨b, off, e0, hb, d⟩ := sl_at (HS.out.below hBr) hlt
      subst e0
      have hno := form_no (l := l) hlt
      have hnx : okS (l.getD k default) = true → ∀ j, j < k + 1 → okS (l.getD j default) = true := fun h j hj => by
        rcases Nat.lt_or_ge j k with h1 | h1
        · exact hgood j h1
        · obtain rfl : j = k := by omega
          exact h
      have RC := fun W => rcheck_any (l.getD k default) W
      have c0 : wr.cell? ⟨b, off + k * 6, none⟩ = some (.int .i64 (l.getD k default).x.a) := d 0 (by omega)
      have c1 : wr.cell? ⟨b, off + k * 6 + 1, none⟩ = some (.int .i64 (l.getD k default).x.b) := d 1 (by omega)
      have c2 : wr.cell? ⟨b, off + k * 6 + 2, none⟩ = some (.int .i64 (l.getD k default).y.a) := d 2 (by omega)
      have c3 : wr.cell? ⟨b, off + k * 6 + 3, none⟩ = some (.int .i64 (l.getD k default).y.b) := d 3 (by omega)
      have c4 : wr.cell? ⟨b, off + k * 6 + 4, none⟩ = some (.int .i64 (l.getD k default).z.a) := d 4 (by omega)
      have c5 : wr.cell? ⟨b, off + k * 6 + 5, none⟩ = some (.int .i64 (l.getD k default).z.b) := d 5 (by omega)
      have hch : chS (l.getD k default) = if okS (l.getD k default) then 0 else 100 := rfl
      generalize l.getD k default = x at *
      unfold Se.val at RC
      have s1 : (0 : Int) ≤ k := by omega
      have s2 : (k : Int) < l.length := by omega
      have HN := Lib.hid hno
      have HX := Lib.hid hnx
      clear hno hnx hgood d
      cases ho : okS x with
      | true =>
        rw [ho, if_pos rfl] at hch
        rw [hch] at RC
        have q := Lib.hid (HX.out ho)
        have RCC := Lib.hid RC
        clear RC hch HX HN ho
        go_wp2_with (go_at_call 33; (with_reducible refine (RCC.out _).mono ?_); rintro e w1 ⟨rfl, hb1⟩)
        go_roundg (gk - 1)
        case measure => omega
        case rel => exact ⟨hBr.trans (hb1.mono hBr.size), k + 1, by first | rfl | go_num, by omega, q.out⟩
      | false =>
        rw [ho, if_neg (by decide)] at hch
        rw [hch] at RC
        have q := Lib.hid (HN.out ho)
        have RCC := Lib.hid RC
        clear RC hch HX HN ho
        go_wp2_with (go_at_call 33; (with_reducible refine (RCC.out _).mono ?_); rintro e w1 ⟨rfl, hb1⟩)
        go_ret
        exact ⟨ret_bool q.out.symm, hBr.trans (hb1.mono hBr.size)⟩
    · have q := Lib.hid (form_yes (l := l) fun j hj => hgood j (by omega))
      clear hgood
      go_wp2
      go_ret
      exact ⟨ret_bool q.out.symm, hBr⟩
end Go.Proofs.YthboebhghaabnaaDoor

set_option linter.unusedSimpArgs false
set_option linter.unusedVariables false
namespace Go.Proofs.YthboebhghaabnaaDoor
open Go.RowKit Fk Sha
/-! A copy of a list in a block of its own; one element replaced. -/
theorem own_empty6 (W : World) (e : TypeId) : (W.alloc (.cells #[] e)).ownsRow W.heap.size e 6 (.slice (some ⟨W.heap.size, 0, none⟩) 0 0) 0 [] :=
  ⟨rfl, .inr ⟨W.heap.size, 0, #[], rfl, Nat.le_refl _, Row.new W e [], Nat.le_refl _, by unfold maxLen; omega, rfl, rfl⟩⟩
theorem own_rowx {W : World} {base n m : Nat} {e : TypeId} {v : Value} {xs : List Value} (h : W.ownsRow base e m v n xs) (hn : 0 < n) : ∃ g cap ex, v = .slice (some ⟨g, 0, none⟩) n cap ∧ base ≤ g ∧ Row W g e (xs ++ ex) := by
  rcases h.2 with ⟨_, h0⟩ | ⟨g, cap, cur, rfl, hb, hg, hnc, hc, hcs, ht⟩
  · omega
  · refine ⟨g, cap, cur.toList.drop (n * m), rfl, hb, ?_⟩
    rw [← ht, List.take_append_drop]
    show W.heap[g]? = _
    rw [hg]
theorem rowx_sl {W : World} {g c B0 : Nat} {t : TypeId} {l : List Se} {ex : List Value} (h : Row W g t (l.flatMap encS ++ ex)) (hl : l.length ≤ 9223372036854775807) (hB : g < B0) : SlS W B0 (.slice (some ⟨g, 0, none⟩) l.length c) l := by
  have r := Row.new W t (l.flatMap encS)
  obtain ⟨_, A, c2, hv, hE⟩ := Row.sl (m := 6) (enc := encS) (c := c) (B0 := W.heap.size + 1) r (fun _ => rfl) hl (by omega)
  refine ⟨hl, _, _, rfl, fun h0 => ⟨g, 0, rfl, hB, fun i hi j hj => ?_⟩⟩
  obtain ⟨b, off, hA, _, hC⟩ := hE h0
  cases hv
  cases hA
  have h1 := hC i hi j hj
  rw [Row.cell r] at h1
  rw [Row.cell h]
  have hlt : 0 + i * 6 + j < (l.flatMap encS).length := (List.getElem?_eq_some_iff.1 h1).1
  rw [List.getElem?_append_left hlt, h1]
theorem put6_atx {W : World} {g : Nat} {t : TypeId} {l : List Se} {ex : List Value} (h : Row W g t (l.flatMap encS ++ ex)) {k : Nat} (hk : k < l.length) (x : Se) : Row (put6 W g (k * 6) x) g t ((l.set k x).flatMap encS ++ ex) := by
  have hln : ∀ L : List Se, (L.flatMap encS).length = L.length * 6 := fun L => by
    induction L with
    | nil => rfl
    | cons a L ih => rw [List.flatMap_cons, List.length_append, ih, List.length_cons]; show 6 + L.length * 6 = _; omega
  have hs := flat_set6 l k x hk
  have e : ∀ (L : List Value) (i : Nat) (u : Value), i < L.length → (L ++ ex).set i u = L.set i u ++ ex := fun L i u hi => List.set_append_left _ _ hi
  have h6 := hln l
  unfold put6
  have h' := (((((h.store (k * 6 + 0) (.int .i64 x.x.a)).store (k * 6 + 1) (.int .i64 x.x.b)).store (k * 6 + 2) (.int .i64 x.y.a)).store (k * 6 + 3) (.int .i64 x.y.b)).store (k * 6 + 4) (.int .i64 x.z.a)).store (k * 6 + 5) (.int .i64 x.z.b)
  rw [e _ _ _ (by omega), e _ _ _ (by rw [List.length_set]; omega), e _ _ _ (by simp only [List.length_set]; omega), e _ _ _ (by simp only [List.length_set]; omega), e _ _ _ (by simp only [List.length_set]; omega), e _ _ _ (by simp only [List.length_set]; omega), hs] at h'
  exact h'
end Go.Proofs.YthboebhghaabnaaDoor

set_option linter.unusedSimpArgs false
set_option linter.unusedVariables false
namespace Go.Proofs.YthboebhghaabnaaDoor
open Go.RowKit Fk Sha
/-! The cells that a slice of letters adds. -/
theorem flat_at6 : ∀ (l : List Se) (i j : Nat), i < l.length → j < 6 → (l.flatMap encS)[i * 6 + j]? = some ((encS (l.getD i default)).getD j undef)
  | [], i, j, hi, _ => by simp at hi
  | a :: l, 0, j, _, hj => by
    rw [List.flatMap_cons, Nat.zero_mul, Nat.zero_add, List.getElem?_append_left (show j < 6 from hj)]
    show (encS a)[j]? = some ((encS a).getD j undef)
    have h : j < (encS a).length := hj
    simp [h]
  | a :: l, i + 1, j, hi, hj => by
    have hm : (encS a).length = 6 := rfl
    rw [List.flatMap_cons, List.getElem?_append_right (by rw [hm, Nat.succ_mul]; omega), hm]
    have e : (i + 1) * 6 + j - 6 = i * 6 + j := by rw [Nat.succ_mul]; omega
    rw [e, flat_at6 l i j (by simpa using hi) hj]
    rfl
theorem flat_len6 (l : List Se) : (l.flatMap encS).length = l.length * 6 := by
  induction l with
  | nil => rfl
  | cons a l ih => rw [List.flatMap_cons, List.length_append, ih, List.length_cons]; show 6 + l.length * 6 = _; omega
theorem news_se {W : World} {B0 c n : Nat} {ad : Addr} {l : List Se} (hn : n = l.length) (h : SlS W B0 (.slice (some ad) n c) l) (hp : 0 < n) : ∀ j u, (l.flatMap encS)[j]? = some u → W.cell? (ad.add j) = some u := by
  subst hn
  intro j u hu
  obtain ⟨_, A', c', hv, hE⟩ := h
  obtain ⟨b', off', rfl, _, hC⟩ := hE hp
  cases hv
  have hlt := (List.getElem?_eq_some_iff.1 hu).1
  rw [flat_len6] at hlt
  have hd : j / 6 * 6 + j % 6 = j := by omega
  have h1 := hC (j / 6) (by omega) (j % 6) (by omega)
  rw [← hu, Addr.add_mid, ← hd, flat_at6 l (j / 6) (j % 6) (by omega) (by omega), ← h1, Nat.add_assoc, hd]
theorem se_ones (l : List Se) : ∀ u ∈ l.flatMap encS, u.oneCell' = true := by
  intro u hu
  obtain ⟨s, _, h⟩ := List.mem_flatMap.1 hu
  unfold encS Se.cells at h
  simp at h
  rcases h with rfl | rfl | rfl | rfl | rfl | rfl <;> rfl
theorem se_some {W : World} {B0 c n : Nat} {A : Option Addr} {l : List Se} (h : SlS W B0 (.slice A n c) l) (hp : 0 < n) : ∃ ad : Addr, A = some ad := by
  obtain ⟨_, A', c', hv, hE⟩ := h
  cases hv
  obtain ⟨b', off', rfl, _, _⟩ := hE hp
  exact ⟨_, rfl⟩
theorem cells6x {W : World} {g : Nat} {t : TypeId} {l : List Se} {ex : List Value} (h : Row W g t (l.flatMap encS ++ ex)) {k : Nat} (hk : k < l.length) (hl : l.length ≤ 1000) : W.cell? ⟨g, k * 6, none⟩ = some (.int .i64 (l.getD k default).x.a) ∧ W.cell? ⟨g, k * 6 + 1, none⟩ = some (.int .i64 (l.getD k default).x.b) ∧ W.cell? ⟨g, k * 6 + 2, none⟩ = some (.int .i64 (l.getD k default).y.a) ∧
    W.cell? ⟨g, k * 6 + 3, none⟩ = some (.int .i64 (l.getD k default).y.b) ∧ W.cell? ⟨g, k * 6 + 4, none⟩ = some (.int .i64 (l.getD k default).z.a) ∧ W.cell? ⟨g, k * 6 + 5, none⟩ = some (.int .i64 (l.getD k default).z.b) := by
  have e : ∀ j, j < 6 → W.cell? ⟨g, k * 6 + j, none⟩ = some ((encS (l.getD k default)).getD j undef) := fun j hj => by
    rw [h.cell, List.getElem?_append_left (by rw [flat_len6]; omega), flat_at6 l k j hk hj]
  exact ⟨e 0 (by omega), e 1 (by omega), e 2 (by omega), e 3 (by omega), e 4 (by omega), e 5 (by omega)⟩
theorem se_cells {W : World} {B0 b o n c k : Nat} {A : Option Addr} {l : List Se} (h : SlS W B0 (.slice A n c) l) (ha : A = some ⟨b, o, none⟩) (hk : k < l.length) : W.cell? ⟨b, o + k * 6, none⟩ = some (.int .i64 (l.getD k default).x.a) ∧ W.cell? ⟨b, o + k * 6 + 1, none⟩ = some (.int .i64 (l.getD k default).x.b) ∧ W.cell? ⟨b, o + k * 6 + 2, none⟩ = some (.int .i64 (l.getD k default).y.a) ∧
    W.cell? ⟨b, o + k * 6 + 3, none⟩ = some (.int .i64 (l.getD k default).y.b) ∧ W.cell? ⟨b, o + k * 6 + 4, none⟩ = some (.int .i64 (l.getD k default).z.a) ∧ W.cell? ⟨b, o + k * 6 + 5, none⟩ = some (.int .i64 (l.getD k default).z.b) := by
  obtain ⟨b', off, e, _, hC⟩ := sl_at h hk
  rw [ha] at e
  cases e
  exact ⟨hC 0 (by omega), hC 1 (by omega), hC 2 (by omega), hC 3 (by omega), hC 4 (by omega), hC 5 (by omega)⟩
end Go.Proofs.YthboebhghaabnaaDoor
