import Derived.Test.YtlbnbginippjfaaShP
/-! What is recovered from shares. -/
namespace Fk
/-- powers modulo Q -/
def PQ (a n c x m : Nat) : Prop := c * x ^ m % 1073741789 = a ^ n % 1073741789
theorem PQ.start (a n : Nat) : PQ a n 1 a n := by simp [PQ]
theorem powQ_half (x m : Nat) : x ^ m % 1073741789 = (if m % 2 = 1 then x * (x * x % 1073741789) ^ (m / 2) else (x * x % 1073741789) ^ (m / 2)) % 1073741789 := by
  have e : (x * x % 1073741789) ^ (m / 2) % 1073741789 = x ^ (2 * (m / 2)) % 1073741789 := by
    rw [← Nat.pow_mod, Nat.pow_mul, Nat.pow_two]
  by_cases h : m % 2 = 1
  · rw [if_pos h, Nat.mul_mod, e, ← Nat.mul_mod, ← Nat.pow_succ']
    congr 2; omega
  · rw [if_neg h, e]; congr 2; omega
theorem PQ.odd {a n c x m : Nat} (h : PQ a n c x m) (ho : m % 2 = 1) : PQ a n (c * x % 1073741789) (x * x % 1073741789) (m / 2) := by
  unfold PQ at *
  rw [← h, Nat.mul_mod c (x ^ m), powQ_half x m, if_pos ho, Nat.mul_mod (c * x % 1073741789), Nat.mod_mod, ← Nat.mul_mod, ← Nat.mul_mod, Nat.mul_assoc]
theorem PQ.even {a n c x m : Nat} (h : PQ a n c x m) (ho : ¬ m % 2 = 1) : PQ a n c (x * x % 1073741789) (m / 2) := by
  unfold PQ at *
  rw [← h, Nat.mul_mod c (x ^ m), powQ_half x m, if_neg ho, ← Nat.mul_mod]
theorem PQ.done {a n c x : Nat} (h : PQ a n c x 0) (hc : c < 1073741789) : c = a ^ n % 1073741789 := by
  unfold PQ at h
  rw [Nat.pow_zero, Nat.mul_one, Nat.mod_eq_of_lt hc] at h
  exact h
def pwQ (a n : Int) : Int := ((a.toNat ^ n.toNat % 1073741789 : Nat) : Int)
theorem pwQ_bd (a n : Int) : 0 ≤ pwQ a n ∧ pwQ a n < 1073741789 := by
  unfold pwQ
  have := Nat.mod_lt (a.toNat ^ n.toNat) (show 0 < 1073741789 by omega)
  omega

/-- a share in form -/
def shOK (s : Sh) : Prop := 1 ≤ s.a ∧ s.a ≤ 24 ∧ 0 ≤ s.v ∧ s.v < 1073741789
/-- the i-th share is in form, and none before it has its place -/
def shAt (l : List Sh) (i : Nat) : Prop := shOK (l.getD i default) ∧ ∀ j, j < i → (l.getD j default).a ≠ (l.getD i default).a
def formedS (l : List Sh) : Prop := 0 < l.length ∧ ∀ i, i < l.length → shAt l i
def stepA (s : Sh) (c : Int) (t : Sh) : Int := if t.a = s.a then c else c * t.a % 1073741789
def stepB (s : Sh) (c : Int) (t : Sh) : Int := if t.a = s.a then c else c * ((t.a - s.a) % 1073741789) % 1073741789
def aboveQ (s : Sh) (l : List Sh) : Int := l.foldl (stepA s) s.v
def belowQ (s : Sh) (l : List Sh) : Int := l.foldl (stepB s) 1
def stepR (l : List Sh) (acc : Int) (s : Sh) : Int := (acc + aboveQ s l * pwQ (belowQ s l) 1073741787) % 1073741789
def recTo (l : List Sh) (k : Nat) : Int := (l.take k).foldl (stepR l) 0
open Classical in
noncomputable def recV (l : List Sh) : Int := if formedS l then recTo l l.length else 0
open Classical in
noncomputable def recE (l : List Sh) : Int := if formedS l then 0 else 471
theorem take_snocS {l : List Sh} {k : Nat} (h : k < l.length) : l.take (k + 1) = l.take k ++ [l.getD k default] := by
  rw [List.take_succ_eq_append_getElem h]
  simp [h]
theorem aboveQ_snoc (s : Sh) (l : List Sh) (t : Sh) : aboveQ s (l ++ [t]) = stepA s (aboveQ s l) t := by simp [aboveQ]
theorem belowQ_snoc (s : Sh) (l : List Sh) (t : Sh) : belowQ s (l ++ [t]) = stepB s (belowQ s l) t := by simp [belowQ]
theorem recTo_succ {l : List Sh} {k : Nat} (h : k < l.length) : recTo l (k + 1) = stepR l (recTo l k) (l.getD k default) := by
  unfold recTo; rw [take_snocS h, List.foldl_append]; rfl
theorem fold_bd (f : Int → Sh → Int) (hf : ∀ c t, 0 ≤ c ∧ c < 1073741789 → 0 ≤ f c t ∧ f c t < 1073741789) : ∀ (l : List Sh) (c : Int), 0 ≤ c ∧ c < 1073741789 → 0 ≤ l.foldl f c ∧ l.foldl f c < 1073741789
  | [], _, h => h
  | t :: l, c, h => fold_bd f hf l (f c t) (hf c t h)
theorem aboveQ_bd {s : Sh} (hs : 0 ≤ s.v ∧ s.v < 1073741789) (l : List Sh) : 0 ≤ aboveQ s l ∧ aboveQ s l < 1073741789 :=
  fold_bd _ (fun c t h => by unfold stepA; split <;> omega) l _ hs
theorem belowQ_bd (s : Sh) (l : List Sh) : 0 ≤ belowQ s l ∧ belowQ s l < 1073741789 :=
  fold_bd _ (fun c t h => by unfold stepB; split <;> omega) l _ (by omega)
theorem recTo_bd (l : List Sh) (k : Nat) : 0 ≤ recTo l k ∧ recTo l k < 1073741789 :=
  fold_bd _ (fun c t h => by unfold stepR; omega) _ _ (by omega)
theorem recE_bad {l : List Sh} {i : Nat} (hi : i < l.length) (h : ¬ shAt l i) : recE l = 471 ∧ recV l = 0 := by
  have hn : ¬ formedS l := fun hc => h (hc.2 i hi)
  unfold recE recV; rw [if_neg hn, if_neg hn]; exact ⟨rfl, rfl⟩
theorem recE_nil : recE [] = 471 ∧ recV [] = 0 := by
  have hn : ¬ formedS [] := fun hc => absurd hc.1 (by simp)
  unfold recE recV; rw [if_neg hn, if_neg hn]; exact ⟨rfl, rfl⟩
theorem recE_ok {l : List Sh} (h : formedS l) : recE l = 0 ∧ recV l = recTo l l.length := by
  unfold recE recV; rw [if_pos h, if_pos h]; exact ⟨rfl, rfl⟩
/-- which places have been met -/
def metB (l : List Sh) (j : Nat) : Bool := l.any fun s => s.a == (j : Int)
theorem metB_snoc (l : List Sh) (s : Sh) (j : Nat) : metB (l ++ [s]) j = (metB l j || s.a == (j : Int)) := by simp [metB]
theorem met_iff {l : List Sh} {k : Nat} (hk : k ≤ l.length) (j : Nat) : metB (l.take k) j = true ↔ ∃ i, i < k ∧ (l.getD i default).a = (j : Int) := by
  unfold metB
  rw [List.any_eq_true]
  constructor
  · rintro ⟨s, hs, he⟩
    obtain ⟨i, hi, rfl⟩ := List.getElem_of_mem hs
    rw [List.length_take] at hi
    refine ⟨i, by omega, ?_⟩
    rw [List.getElem_take] at he
    rw [List.getD_eq_getElem?_getD, List.getElem?_eq_getElem (by omega)]
    simpa using he
  · rintro ⟨i, hi, he⟩
    refine ⟨(l.take k)[i]'(by rw [List.length_take]; omega), List.getElem_mem _, ?_⟩
    rw [List.getElem_take]
    rw [List.getD_eq_getElem?_getD, List.getElem?_eq_getElem (by omega)] at he
    simpa using he
theorem next_sh {l : List Sh} {k : Nat} (h : ∀ j, j < k → shAt l j) (hk : shAt l k) : ∀ j, j < k + 1 → shAt l j := fun j hj => by
  rcases Nat.lt_or_ge j k with h1 | h1
  · exact h j h1
  · obtain rfl : j = k := by omega
    exact hk
end Fk
