import Init
import Derived.Test.YthckledagggoiaaGreatDoorChecked
import Derived.WalkKit
import Derived.WalkSpells
import Derived.WalkLawsBesides
import Derived.Outline
import Derived.Deep.QuietTactic
import Derived.BigQuiet
import Derived.Lib.Hide
import Derived.Deep.LoopGhost
import Derived.RangeFuncNested
import Derived.RangeFuncLeaves
import Derived.Deep.Draws
import Derived.RangeFuncBound
import Derived.RangeFuncCalls
import Derived.Shelf.Abstract
import Derived.Shelf.RegionOpen
import Derived.OwnWalkIn
import Derived.TacticsInMore
import Derived.LoopNIn
import Derived.LoopIn
import Derived.Test.YthckledagggoiaaGreatDoorRows
import Derived.LaidMore
import Derived.OpenShut
import Derived.Stop.Joined
import Derived.ProofKit
import Derived.ChangeSlices
import Derived.Deep.Slices
import Derived.Deep.Fields
import Derived.ChangeSame
import Derived.Carry
import Derived.ChangeMaps5
import Derived.Below
import Derived.OrdersIn
import Derived.TacticsIn
import Derived.Test.YthckledagggoiaaGreatDoorZPgb
/-! Plain arithmetic: Gauss's lemma for odd moduli, reciprocity, powers modulo a prime. -/
namespace Fk

/-! ### permutations -/
theorem perm_of_subset : ∀ (l m : List Nat), l.Nodup → (∀ a ∈ l, a ∈ m) → m.length ≤ l.length → l.Perm m
  | [], m, _, _, h => by
    have : m = [] := List.eq_nil_of_length_eq_zero (by simpa using h)
    subst this; exact List.Perm.nil
  | a :: t, m, hn, hs, h => by
    have ha : a ∈ m := hs a (by simp)
    have hp := List.perm_cons_erase ha
    rw [List.nodup_cons] at hn
    have ht : t.Perm (m.erase a) := by
      refine perm_of_subset t (m.erase a) hn.2 (fun b hb => ?_) ?_
      · have hne : b ≠ a := fun e => hn.1 (e ▸ hb)
        exact (List.mem_erase_of_ne hne).2 (hs b (by simp [hb]))
      · have := List.length_erase_of_mem ha
        simp at h; omega
    exact (ht.cons a).trans hp.symm

theorem perm_range_map (h : Nat) (f : Nat → Nat) (hf : ∀ k, k < h → f k < h) (hi : ∀ i j, i < h → j < h → f i = f j → i = j) :
    ((List.range h).map f).Perm (List.range h) := by
  refine perm_of_subset _ _ ?_ ?_ (by simp)
  · rw [List.Nodup, List.pairwise_map]
    have hn : (List.range h).Nodup := List.nodup_range
    rw [List.Nodup] at hn
    refine List.Pairwise.imp_of_mem ?_ hn
    intro a b ha hb hne he
    exact hne (hi a b (by simpa using ha) (by simpa using hb) he)
  · intro a ha
    obtain ⟨k, hk, rfl⟩ := List.mem_map.1 ha
    simpa using hf k (by simpa using hk)

/-! ### the count of Gauss -/
def mu (a n : Nat) : Nat := (List.range (n / 2)).countP fun k => decide (n / 2 < a * (k + 1) % n)
def jac (a n : Nat) : Bool := mu a n % 2 == 0
def sg (a n k : Nat) : Nat := if n / 2 < a * (k + 1) % n then n - a * (k + 1) % n - 1 else a * (k + 1) % n - 1

theorem res_ne {a n k : Nat} (hc : Nat.Coprime a n) (hk : k + 1 < n) : a * (k + 1) % n ≠ 0 := by
  intro h
  have hd : n ∣ a * (k + 1) := Nat.dvd_of_mod_eq_zero h
  have := Nat.Coprime.dvd_of_dvd_mul_left hc.symm hd
  have := Nat.le_of_dvd (by omega) this
  omega

theorem sg_lt {a n k : Nat} (ho : n % 2 = 1) (hc : Nat.Coprime a n) (hk : k < n / 2) : sg a n k < n / 2 := by
  have h0 := res_ne hc (show k + 1 < n by omega)
  have h1 := Nat.mod_lt (a * (k + 1)) (show 0 < n by omega)
  unfold sg
  split <;> omega

theorem sg_inj {a n : Nat} (ho : n % 2 = 1) (hc : Nat.Coprime a n) (i j : Nat) (hi : i < n / 2) (hj : j < n / 2) (h : sg a n i = sg a n j) : i = j := by
  have hi0 := res_ne hc (show i + 1 < n by omega)
  have hj0 := res_ne hc (show j + 1 < n by omega)
  have hi1 := Nat.mod_lt (a * (i + 1)) (show 0 < n by omega)
  have hj1 := Nat.mod_lt (a * (j + 1)) (show 0 < n by omega)
  have key : a * (i + 1) % n = a * (j + 1) % n ∨ a * (i + 1) % n + a * (j + 1) % n = n := by
    unfold sg at h
    split at h <;> split at h <;> omega
  rcases key with he | he
  · -- differences
    have wl : ∀ p q : Nat, p ≤ q → q < n / 2 → a * (p + 1) % n = a * (q + 1) % n → p = q := by
      intro p q hpq hq he
      have hd : n ∣ a * (q - p) := by
        have h2 : (a * (q + 1) - a * (p + 1)) % n = 0 := Nat.sub_mod_eq_zero_of_mod_eq he.symm
        have h3 : a * (q + 1) - a * (p + 1) = a * (q - p) := by rw [← Nat.mul_sub]; congr 1; omega
        rw [h3] at h2; exact Nat.dvd_of_mod_eq_zero h2
      have := Nat.Coprime.dvd_of_dvd_mul_left hc.symm hd
      rcases Nat.eq_zero_or_pos (q - p) with h0 | h0
      · omega
      · have := Nat.le_of_dvd h0 this; omega
    rcases Nat.le_total i j with hij | hij
    · exact wl i j hij hj he
    · exact (wl j i hij hi he.symm).symm
  · exfalso
    have h2 : (a * (i + 1) + a * (j + 1)) % n = 0 := by rw [Nat.add_mod, he, Nat.mod_self]
    have hd : n ∣ a * (i + j + 2) := by
      have e : a * (i + 1) + a * (j + 1) = a * (i + j + 2) := by rw [← Nat.mul_add]; congr 1; omega
      rw [e] at h2; exact Nat.dvd_of_mod_eq_zero h2
    have := Nat.Coprime.dvd_of_dvd_mul_left hc.symm hd
    have := Nat.le_of_dvd (by omega) this
    omega

theorem sg_perm {a n : Nat} (ho : n % 2 = 1) (hc : Nat.Coprime a n) : ((List.range (n / 2)).map (sg a n)).Perm (List.range (n / 2)) :=
  perm_range_map _ _ (fun _ hk => sg_lt ho hc hk) (fun i j hi hj h => sg_inj ho hc i j hi hj h)

theorem countP_xor (p q : Nat → Bool) : ∀ l : List Nat, (l.countP fun k => p k ^^ q k) % 2 = (l.countP p + l.countP q) % 2
  | [] => rfl
  | a :: t => by
    have ih := countP_xor p q t
    rw [List.countP_cons, List.countP_cons, List.countP_cons]
    cases p a <;> cases q a <;> simp <;> omega

theorem countP_congr' (p q : Nat → Bool) : ∀ l : List Nat, (∀ k ∈ l, p k = q k) → l.countP p = l.countP q
  | [], _ => rfl
  | a :: t, h => by
    rw [List.countP_cons, List.countP_cons, countP_congr' p q t (fun k hk => h k (by simp [hk])), h a (by simp)]

theorem neg_mul {a b n k : Nat} (ho : n % 2 = 1) (ha : Nat.Coprime a n) (hb : Nat.Coprime b n) (hk : k < n / 2) :
    decide (n / 2 < (a * b) * (k + 1) % n) = (decide (n / 2 < b * (k + 1) % n) ^^ decide (n / 2 < a * (sg b n k + 1) % n)) := by
  have h0 := res_ne hb (show k + 1 < n by omega)
  have h1 := Nat.mod_lt (b * (k + 1)) (show 0 < n by omega)
  have hab : Nat.Coprime (a * b) n := Nat.Coprime.mul_left ha hb
  have hr0 := res_ne hab (show k + 1 < n by omega)
  have hr1 := Nat.mod_lt (a * b * (k + 1)) (show 0 < n by omega)
  have e1 : a * b * (k + 1) % n = a * (b * (k + 1) % n) % n := by
    rw [Nat.mul_assoc, Nat.mul_mod, Nat.mul_mod a (b * (k + 1) % n), Nat.mod_mod]
  by_cases hs : n / 2 < b * (k + 1) % n
  · have es : sg b n k + 1 = n - b * (k + 1) % n := by unfold sg; rw [if_pos hs]; omega
    rw [es]
    generalize b * (k + 1) % n = r at *
    have e2 : (a * (n - r) + a * r) % n = 0 := by
      rw [← Nat.mul_add, Nat.sub_add_cancel (by omega)]; exact Nat.mul_mod_left a n
    rw [Nat.add_mod, ← e1] at e2
    have h3 := Nat.mod_lt (a * (n - r)) (show 0 < n by omega)
    generalize a * (n - r) % n = u at *
    generalize a * b * (k + 1) % n = v at *
    have e3 : u + v = n := by
      rcases Nat.lt_or_ge (u + v) n with hl | hl
      · rw [Nat.mod_eq_of_lt hl] at e2; omega
      · have : (u + v) % n = u + v - n := by rw [Nat.mod_eq_sub_mod hl, Nat.mod_eq_of_lt (by omega)]
        omega
    simp only [hs, decide_true, Bool.true_xor]
    by_cases hu : n / 2 < u
    · have : ¬ n / 2 < v := by omega
      simp [hu, this]
    · have : n / 2 < v := by omega
      simp [hu, this]
  · have es : sg b n k + 1 = b * (k + 1) % n := by unfold sg; rw [if_neg hs]; omega
    rw [es, e1]
    simp [hs]

theorem mu_mul {a b n : Nat} (ho : n % 2 = 1) (ha : Nat.Coprime a n) (hb : Nat.Coprime b n) : mu (a * b) n % 2 = (mu a n + mu b n) % 2 := by
  unfold mu
  rw [countP_congr' _ (fun k => decide (n / 2 < b * (k + 1) % n) ^^ decide (n / 2 < a * (sg b n k + 1) % n)) _ (fun k hk => neg_mul ho ha hb (by simpa using hk)), countP_xor]
  have := List.Perm.countP_eq (fun k => decide (n / 2 < a * (k + 1) % n)) (sg_perm ho hb)
  rw [List.countP_map] at this
  have e : (List.range (n / 2)).countP (fun k => decide (n / 2 < a * (sg b n k + 1) % n)) = (List.range (n / 2)).countP (fun k => decide (n / 2 < a * (k + 1) % n)) := this
  rw [e]; omega

theorem jac_mul {a b n : Nat} (ho : n % 2 = 1) (ha : Nat.Coprime a n) (hb : Nat.Coprime b n) : jac (a * b) n = (jac a n == jac b n) := by
  have h := mu_mul ho ha hb
  unfold jac
  rw [h]
  rcases Nat.mod_two_eq_zero_or_one (mu a n) with h1 | h1 <;> rcases Nat.mod_two_eq_zero_or_one (mu b n) with h2 | h2 <;>
    simp [h1, h2, Nat.add_mod]

theorem jac_mod (a n : Nat) : jac (a % n) n = jac a n := by
  have e : ∀ k, (a % n) * (k + 1) % n = a * (k + 1) % n := fun k => by rw [Nat.mul_mod, Nat.mod_mod, ← Nat.mul_mod]
  unfold jac mu
  simp only [e]

theorem jac_one {n : Nat} (_ : n % 2 = 1) : jac 1 n = true := by
  have e : mu 1 n = 0 := by
    unfold mu
    rw [List.countP_eq_zero]
    intro k hk
    have hk' : k < n / 2 := by simpa using hk
    have : 1 * (k + 1) % n = k + 1 := by rw [Nat.one_mul]; exact Nat.mod_eq_of_lt (by omega)
    simp only [decide_eq_true_eq]; rw [this]; omega
  simp [jac, e]

theorem count_gt (h c : Nat) : (List.range h).countP (fun k => decide (c ≤ k)) = h - c := by
  induction h with
  | zero => simp
  | succ h ih =>
    rw [List.range_succ, List.countP_append, ih]
    by_cases hc : c ≤ h
    · simp [hc]; omega
    · simp [hc]; omega

theorem jac_two {n : Nat} (ho : n % 2 = 1) : jac 2 n = !(n % 8 == 3 || n % 8 == 5) := by
  have e : mu 2 n = n / 2 - n / 4 := by
    unfold mu
    rw [countP_congr' _ (fun k => decide (n / 4 ≤ k)), count_gt]
    intro k hk
    have hk' : k < n / 2 := by simpa using hk
    have : 2 * (k + 1) % n = 2 * (k + 1) := Nat.mod_eq_of_lt (by omega)
    rw [this]
    by_cases h : n / 4 ≤ k
    · have : n / 2 < 2 * (k + 1) := by omega
      simp [h, this]
    · have : ¬ n / 2 < 2 * (k + 1) := by omega
      simp [h, this]
  unfold jac
  rw [e]
  have h8 : n % 8 = 1 ∨ n % 8 = 3 ∨ n % 8 = 5 ∨ n % 8 = 7 := by omega
  rcases h8 with h | h | h | h
  · have : (n / 2 - n / 4) % 2 = 0 := by omega
    simp [h, this]
  · have : (n / 2 - n / 4) % 2 = 1 := by omega
    simp [h, this]
  · have : (n / 2 - n / 4) % 2 = 1 := by omega
    simp [h, this]
  · have : (n / 2 - n / 4) % 2 = 0 := by omega
    simp [h, this]

/-! ### reciprocity -/
def sumTo (h : Nat) (f : Nat → Nat) : Nat := ((List.range h).map f).sum

theorem sumTo_succ (h : Nat) (f : Nat → Nat) : sumTo (h + 1) f = sumTo h f + f h := by
  unfold sumTo; rw [List.range_succ, List.map_append, List.sum_append]; simp
theorem sumTo_zero (f : Nat → Nat) : sumTo 0 f = 0 := rfl
theorem sumTo_congr {h : Nat} {f g : Nat → Nat} (hfg : ∀ k, k < h → f k = g k) : sumTo h f = sumTo h g := by
  induction h with
  | zero => rfl
  | succ h ih => rw [sumTo_succ, sumTo_succ, ih (fun k hk => hfg k (by omega)), hfg h (by omega)]
theorem sumTo_add (h : Nat) (f g : Nat → Nat) : sumTo h (fun k => f k + g k) = sumTo h f + sumTo h g := by
  induction h with
  | zero => rfl
  | succ h ih => rw [sumTo_succ, sumTo_succ, sumTo_succ, ih]; omega
theorem sumTo_const (h c : Nat) : sumTo h (fun _ => c) = h * c := by
  induction h with
  | zero => simp [sumTo_zero]
  | succ h ih => rw [sumTo_succ, ih, Nat.succ_mul]
theorem sumTo_parity (h : Nat) (f g : Nat → Nat) (hfg : ∀ k, k < h → f k % 2 = g k % 2) : sumTo h f % 2 = sumTo h g % 2 := by
  induction h with
  | zero => rfl
  | succ h ih =>
    have := ih (fun k hk => hfg k (by omega))
    have := hfg h (by omega)
    rw [sumTo_succ, sumTo_succ]; omega
theorem sumTo_swap (h g : Nat) (f : Nat → Nat → Nat) : sumTo h (fun k => sumTo g (fun j => f k j)) = sumTo g (fun j => sumTo h (fun k => f k j)) := by
  induction h with
  | zero => rw [sumTo_zero]; rw [sumTo_congr (g := fun _ => 0) (fun k _ => sumTo_zero _), sumTo_const]; simp
  | succ h ih => rw [sumTo_succ, ih, ← sumTo_add]; exact sumTo_congr (fun j _ => (sumTo_succ _ _).symm)
theorem countP_sumTo (h : Nat) (p : Nat → Bool) : (List.range h).countP p = sumTo h (fun k => if p k then 1 else 0) := by
  induction h with
  | zero => rfl
  | succ h ih =>
    rw [List.range_succ, List.countP_append, ih, sumTo_succ]
    cases hp : p h <;> simp [hp]

/-- how many j below g have (j + 1) * b ≤ x -/
theorem count_div (g b x : Nat) (hb : 0 < b) (hx : x / b ≤ g) : sumTo g (fun j => if b * (j + 1) ≤ x then 1 else 0) = x / b := by
  have h1 : ∀ g, sumTo g (fun j => if b * (j + 1) ≤ x then 1 else 0) = min g (x / b) := by
    intro g
    induction g with
    | zero => simp [sumTo_zero]
    | succ g ih =>
      rw [sumTo_succ, ih]
      by_cases h : b * (g + 1) ≤ x
      · have : g + 1 ≤ x / b := (Nat.le_div_iff_mul_le hb).2 (by rw [Nat.mul_comm]; exact h)
        rw [if_pos h]; omega
      · have : ¬ g + 1 ≤ x / b := fun hc => h (by have := (Nat.le_div_iff_mul_le hb).1 hc; rw [Nat.mul_comm]; exact this)
        rw [if_neg h]; omega
  rw [h1]; omega

theorem lattice {a n : Nat} (ha : a % 2 = 1) (hn : n % 2 = 1) (hc : Nat.Coprime a n) :
    sumTo (n / 2) (fun k => a * (k + 1) / n) + sumTo (a / 2) (fun j => n * (j + 1) / a) = (n / 2) * (a / 2) := by
  have b1 : ∀ k, k < n / 2 → a * (k + 1) / n ≤ a / 2 := by
    intro k hk
    have h1 : a * (k + 1) < n * (a / 2 + 1) := by
      have h2 : a * (k + 1) ≤ a * (n / 2) := Nat.mul_le_mul_left a (by omega)
      have h3 : 2 * (a * (n / 2)) < 2 * (n * (a / 2 + 1)) := by
        have e1 : 2 * (a * (n / 2)) = a * (n - 1) := by
          rw [Nat.mul_left_comm]; congr 1; omega
        have e2 : 2 * (n * (a / 2 + 1)) = n * (a + 1) := by
          rw [Nat.mul_left_comm]; congr 1; omega
        rw [e1, e2]
        have e3 : a * (n - 1) ≤ a * n := Nat.mul_le_mul_left a (by omega)
        have e4 : n * (a + 1) = a * n + n := by rw [Nat.mul_add, Nat.mul_comm n a, Nat.mul_one]
        omega
      omega
    have := (Nat.div_lt_iff_lt_mul (show 0 < n by omega)).2 (by rw [Nat.mul_comm]; exact h1)
    omega
  have b2 : ∀ j, j < a / 2 → n * (j + 1) / a ≤ n / 2 := by
    intro j hj
    have h1 : n * (j + 1) < a * (n / 2 + 1) := by
      have h2 : n * (j + 1) ≤ n * (a / 2) := Nat.mul_le_mul_left n (by omega)
      have h3 : 2 * (n * (a / 2)) < 2 * (a * (n / 2 + 1)) := by
        have e1 : 2 * (n * (a / 2)) = n * (a - 1) := by
          rw [Nat.mul_left_comm]; congr 1; omega
        have e2 : 2 * (a * (n / 2 + 1)) = a * (n + 1) := by
          rw [Nat.mul_left_comm]; congr 1; omega
        rw [e1, e2]
        have e3 : n * (a - 1) ≤ n * a := Nat.mul_le_mul_left n (by omega)
        have e4 : a * (n + 1) = n * a + a := by rw [Nat.mul_add, Nat.mul_comm a n, Nat.mul_one]
        omega
      omega
    have := (Nat.div_lt_iff_lt_mul (show 0 < a by omega)).2 (by rw [Nat.mul_comm]; exact h1)
    omega
  have e1 : sumTo (n / 2) (fun k => a * (k + 1) / n) = sumTo (n / 2) (fun k => sumTo (a / 2) (fun j => if n * (j + 1) ≤ a * (k + 1) then 1 else 0)) :=
    sumTo_congr fun k hk => (count_div (a / 2) n (a * (k + 1)) (by omega) (b1 k hk)).symm
  have e2 : sumTo (a / 2) (fun j => n * (j + 1) / a) = sumTo (a / 2) (fun j => sumTo (n / 2) (fun k => if a * (k + 1) ≤ n * (j + 1) then 1 else 0)) :=
    sumTo_congr fun j hj => (count_div (n / 2) a (n * (j + 1)) (by omega) (b2 j hj)).symm
  rw [e1, e2, sumTo_swap, ← sumTo_add]
  have e3 : ∀ j, j < a / 2 → sumTo (n / 2) (fun k => if n * (j + 1) ≤ a * (k + 1) then 1 else 0) + sumTo (n / 2) (fun k => if a * (k + 1) ≤ n * (j + 1) then 1 else 0) = n / 2 := by
    intro j hj
    rw [← sumTo_add, sumTo_congr (g := fun _ => 1), sumTo_const, Nat.mul_one]
    intro k hk
    have hne : n * (j + 1) ≠ a * (k + 1) := by
      intro he
      have hd : n ∣ a * (k + 1) := ⟨j + 1, he.symm⟩
      have := Nat.Coprime.dvd_of_dvd_mul_left hc.symm hd
      have := Nat.le_of_dvd (by omega) this
      omega
    rcases Nat.lt_or_gt_of_ne hne with h | h
    · rw [if_pos (by omega), if_neg (by omega)]
    · rw [if_neg (by omega), if_pos (by omega)]
  rw [sumTo_congr e3, sumTo_const, Nat.mul_comm]

theorem mu_floor {a n : Nat} (ha : a % 2 = 1) (hn : n % 2 = 1) (hc : Nat.Coprime a n) : mu a n % 2 = sumTo (n / 2) (fun k => a * (k + 1) / n) % 2 := by
  have hperm := (sg_perm hn hc).sum_nat
  have hs : sumTo (n / 2) (sg a n) = sumTo (n / 2) (fun k => k) := by
    unfold sumTo; rw [hperm, List.map_id']
  have hs1 : sumTo (n / 2) (fun k => sg a n k + 1) = sumTo (n / 2) (fun k => k + 1) := by
    rw [sumTo_add, sumTo_add, hs]
  -- termwise parity: (k+1) ≡ floor + neg + (sg+1)
  have ht : sumTo (n / 2) (fun k => k + 1) % 2 = sumTo (n / 2) (fun k => (a * (k + 1) / n + (if n / 2 < a * (k + 1) % n then 1 else 0)) + (sg a n k + 1)) % 2 := by
    apply sumTo_parity
    intro k hk
    have h0 := res_ne hc (show k + 1 < n by omega)
    have h1 := Nat.mod_lt (a * (k + 1)) (show 0 < n by omega)
    have hd := Nat.div_add_mod (a * (k + 1)) n
    have hp1 : (a * (k + 1)) % 2 = (k + 1) % 2 := by rw [Nat.mul_mod, ha, Nat.one_mul, Nat.mod_mod]
    have hp2 : (n * (a * (k + 1) / n)) % 2 = (a * (k + 1) / n) % 2 := by rw [Nat.mul_mod, hn, Nat.one_mul, Nat.mod_mod]
    unfold sg
    generalize a * (k + 1) % n = r at *
    generalize n * (a * (k + 1) / n) = u at *
    generalize a * (k + 1) / n = q at *
    generalize a * (k + 1) = v at *
    split <;> omega
  rw [sumTo_add _ (fun k => a * (k + 1) / n + (if n / 2 < a * (k + 1) % n then 1 else 0)) (fun k => sg a n k + 1), sumTo_add _ (fun k => a * (k + 1) / n), hs1] at ht
  have hm : mu a n = sumTo (n / 2) (fun k => if n / 2 < a * (k + 1) % n then 1 else 0) := by
    unfold mu; rw [countP_sumTo]
    exact sumTo_congr (fun k _ => by by_cases h : n / 2 < a * (k + 1) % n <;> simp [h])
  rw [hm]
  omega

theorem recip {a n : Nat} (ha : a % 2 = 1) (hn : n % 2 = 1) (hc : Nat.Coprime a n) : jac a n = (jac n a ^^ (a % 4 == 3 && n % 4 == 3)) := by
  have h1 := mu_floor ha hn hc
  have h2 := mu_floor hn ha hc.symm
  have h3 := lattice ha hn hc
  have h4 : (mu a n + mu n a) % 2 = (n / 2) * (a / 2) % 2 := by rw [← h3]; omega
  have h5 : (n / 2) * (a / 2) % 2 = if a % 4 = 3 ∧ n % 4 = 3 then 1 else 0 := by
    rw [Nat.mul_mod]
    by_cases h : a % 4 = 3
    · by_cases h' : n % 4 = 3
      · have e1 : n / 2 % 2 = 1 := by omega
        have e2 : a / 2 % 2 = 1 := by omega
        simp [h, h', e1, e2]
      · have e1 : n / 2 % 2 = 0 := by omega
        simp [h', e1]
    · have e2 : a / 2 % 2 = 0 := by omega
      simp [h, e2]
  rw [h5] at h4
  unfold jac
  by_cases h : a % 4 = 3 ∧ n % 4 = 3
  · rw [if_pos h] at h4
    have : (mu a n % 2 = 0 ∧ mu n a % 2 = 1) ∨ (mu a n % 2 = 1 ∧ mu n a % 2 = 0) := by omega
    rcases this with ⟨x, y⟩ | ⟨x, y⟩ <;> simp [x, y, h.1, h.2]
  · rw [if_neg h] at h4
    have hb : (a % 4 == 3 && n % 4 == 3) = false := by
      by_cases h' : a % 4 = 3
      · have : ¬ n % 4 = 3 := fun e => h ⟨h', e⟩
        simp [this]
      · simp [h']
    have : (mu a n % 2 = 0 ∧ mu n a % 2 = 0) ∨ (mu a n % 2 = 1 ∧ mu n a % 2 = 1) := by omega
    rcases this with ⟨x, y⟩ | ⟨x, y⟩ <;> simp [x, y, hb]

end Fk

namespace Fk

/-! ### the two primes -/
def noDiv : Nat → Nat → Nat → Bool
  | 0, d, n => n % d != 0
  | k + 1, d, n => noDiv k d n && noDiv k (d + 2 ^ (k + 1)) n

theorem noDiv_spec : ∀ (k d n : Nat), noDiv k d n = true → ∀ i, i < 2 ^ k → n % (d + 2 * i) ≠ 0
  | 0, d, n, h, i, hi => by
    have : i = 0 := by simpa using hi
    subst this
    simpa [noDiv] using h
  | k + 1, d, n, h, i, hi => by
    simp only [noDiv, Bool.and_eq_true] at h
    by_cases hk : i < 2 ^ k
    · exact noDiv_spec k d n h.1 i hk
    · have h2 : 2 ^ (k + 1) = 2 ^ k * 2 := Nat.pow_succ 2 k
      have := noDiv_spec k (d + 2 ^ (k + 1)) n h.2 (i - 2 ^ k) (by omega)
      have e : d + 2 ^ (k + 1) + 2 * (i - 2 ^ k) = d + 2 * i := by omega
      rwa [e] at this

def IsP (n : Nat) : Prop := 1 < n ∧ ∀ d, d ∣ n → d = 1 ∨ d = n

theorem isP_of {n : Nat} (h1 : 2 < n) (ho : n % 2 = 1) (hb : n < 65536 * 65536) (hk : noDiv 15 3 n = true) : IsP n := by
  have small : ∀ d, d ∣ n → 1 < d → d < 65536 → d ≠ n → False := by
    intro d hd h1d hlt _
    obtain ⟨e, he⟩ := hd
    by_cases hpar : d % 2 = 0
    · have : n % 2 = 0 := by rw [he, Nat.mul_mod, hpar]; simp
      omega
    · have := noDiv_spec 15 3 n hk ((d - 3) / 2) (by omega)
      have e2 : 3 + 2 * ((d - 3) / 2) = d := by omega
      rw [e2, he] at this
      exact this (Nat.mul_mod_right d e)
  refine ⟨by omega, fun d hd => ?_⟩
  by_cases hd1 : d = 1
  · exact .inl hd1
  by_cases hdn : d = n
  · exact .inr hdn
  exfalso
  have hd0 : d ≠ 0 := by rintro rfl; have := Nat.zero_dvd.1 hd; omega
  by_cases hl : d < 65536
  · exact small d hd (by omega) hl hdn
  · obtain ⟨e, he⟩ := hd
    have he1 : e ≠ 1 := by rintro rfl; omega
    have he0 : e ≠ 0 := by rintro rfl; omega
    have hel : e < 65536 := by
      rcases Nat.lt_or_ge e 65536 with h | h
      · exact h
      · have := Nat.mul_le_mul (show 65536 ≤ d by omega) h
        omega
    have hen : e ≠ n := by
      intro hc
      have : 2 * e ≤ d * e := Nat.mul_le_mul_right e (by omega)
      omega
    exact small e ⟨d, by rw [Nat.mul_comm]; exact he⟩ (by omega) hel hen

theorem IsP.coprime {p a : Nat} (hp : IsP p) (h0 : a % p ≠ 0) : Nat.Coprime a p := by
  rcases hp.2 (Nat.gcd a p) (Nat.gcd_dvd_right a p) with h | h
  · exact h
  · exfalso
    have : p ∣ a := h ▸ Nat.gcd_dvd_left a p
    exact h0 (Nat.mod_eq_zero_of_dvd this)

theorem isP_P : IsP 2147483579 := isP_of (by omega) (by omega) (by omega) (by decide +kernel)
/-! ### products, modulo -/
def Z (h : Nat) (f : Nat → Int) : Int := match h with
  | 0 => 1
  | h + 1 => Z h f * f h

theorem Z_mul (f g : Nat → Int) : ∀ h, Z h (fun k => f k * g k) = Z h f * Z h g
  | 0 => rfl
  | h + 1 => by simp only [Z, Z_mul f g h]; grind
theorem Z_const (c : Int) : ∀ h, Z h (fun _ => c) = c ^ h
  | 0 => by simp [Z]
  | h + 1 => by simp only [Z, Z_const c h, Int.pow_succ]
theorem Z_congr {p : Int} {f g : Nat → Int} : ∀ h, (∀ k, k < h → f k % p = g k % p) → Z h f % p = Z h g % p
  | 0, _ => rfl
  | h + 1, hfg => by
    simp only [Z]
    rw [Int.mul_emod, Z_congr h (fun k hk => hfg k (by omega)), hfg h (by omega), ← Int.mul_emod]

def prodN (h : Nat) (f : Nat → Nat) : Nat := ((List.range h).map f).prod
theorem prodN_succ (h : Nat) (f : Nat → Nat) : prodN (h + 1) f = prodN h f * f h := by
  unfold prodN; rw [List.range_succ, List.map_append, List.prod_append]; simp
theorem Z_prodN (f : Nat → Nat) : ∀ h, Z h (fun k => (f k : Int)) = (prodN h f : Int)
  | 0 => rfl
  | h + 1 => by rw [prodN_succ, Int.natCast_mul, ← Z_prodN f h]; rfl

theorem prodN_coprime {p : Nat} (hp : IsP p) : ∀ h, h < p → Nat.Coprime (prodN h (fun k => k + 1)) p
  | 0, _ => by simp [prodN]
  | h + 1, hlt => by
    rw [prodN_succ]
    exact Nat.Coprime.mul_left (prodN_coprime hp h (by omega)) (hp.coprime (by rw [Nat.mod_eq_of_lt hlt]; omega))

theorem sign_count (q : Nat → Bool) : ∀ h, Z h (fun k => if q k then -1 else 1) = if (List.range h).countP q % 2 = 0 then 1 else -1
  | 0 => by simp [Z]
  | h + 1 => by
    rw [List.range_succ, List.countP_append]
    simp only [Z, sign_count q h, List.countP_cons, List.countP_nil]
    cases q h
    · simp
    · simp only [if_true]
      by_cases hc : (List.range h).countP q % 2 = 0
      · have : ¬ (List.countP q (List.range h) + (0 + 1)) % 2 = 0 := by omega
        rw [if_pos hc, if_neg this]; rfl
      · have : (List.countP q (List.range h) + (0 + 1)) % 2 = 0 := by omega
        rw [if_neg hc, if_pos this]; rfl

theorem emod_eq_of_dvd_sub {p a b : Int} (h : p ∣ a - b) : a % p = b % p :=
  Int.emod_eq_emod_iff_emod_sub_eq_zero.2 (Int.emod_eq_zero_of_dvd h)
theorem dvd_sub_of_emod_eq {p a b : Int} (h : a % p = b % p) : p ∣ a - b :=
  Int.dvd_of_emod_eq_zero (Int.emod_eq_emod_iff_emod_sub_eq_zero.1 h)

/-- **Gauss's lemma and Euler's criterion.** -/
theorem euler {p a : Nat} (hp : IsP p) (ho : p % 2 = 1) (ha : a % p ≠ 0) : a ^ (p / 2) % p = if jac a p then 1 else p - 1 := by
  have hc : Nat.Coprime a p := hp.coprime ha
  have hp1 : 1 < p := hp.1
  have hterm : ∀ k, k < p / 2 → ((a : Int) * ((k + 1 : Nat) : Int)) % (p : Int) = ((if decide (p / 2 < a * (k + 1) % p) then -1 else 1) * ((sg a p k + 1 : Nat) : Int)) % (p : Int) := by
    intro k hk
    have h0 := res_ne hc (show k + 1 < p by omega)
    have h1 := Nat.mod_lt (a * (k + 1)) (show 0 < p by omega)
    have hd := Nat.div_add_mod (a * (k + 1)) p
    apply emod_eq_of_dvd_sub
    have e1 : (a : Int) * ((k + 1 : Nat) : Int) = ((a * (k + 1) : Nat) : Int) := by rw [Int.natCast_mul]
    rw [e1]
    by_cases h : p / 2 < a * (k + 1) % p
    · have es : sg a p k + 1 = p - a * (k + 1) % p := by unfold sg; rw [if_pos h]; omega
      rw [es]
      simp only [h, decide_true, if_true]
      refine ⟨(a * (k + 1) / p : Nat) + 1, ?_⟩
      have e2 : ((a * (k + 1) : Nat) : Int) = (p : Int) * ((a * (k + 1) / p : Nat) : Int) + ((a * (k + 1) % p : Nat) : Int) := by
        rw [← Int.natCast_mul, ← Int.natCast_add, hd]
      rw [Int.natCast_sub (by omega)]
      rw [Int.mul_add]
      omega
    · have es : sg a p k + 1 = a * (k + 1) % p := by unfold sg; rw [if_neg h]; omega
      rw [es]
      simp only [h, decide_false, Bool.false_eq_true, if_false]
      refine ⟨(a * (k + 1) / p : Nat), ?_⟩
      have e2 : ((a * (k + 1) : Nat) : Int) = (p : Int) * ((a * (k + 1) / p : Nat) : Int) + ((a * (k + 1) % p : Nat) : Int) := by
        rw [← Int.natCast_mul, ← Int.natCast_add, hd]
      omega
  have h1 := Z_congr (p := (p : Int)) (p / 2) hterm
  rw [Z_mul (fun _ => (a : Int)) (fun k => ((k + 1 : Nat) : Int)), Z_mul (fun k => if decide (p / 2 < a * (k + 1) % p) then -1 else 1) (fun k => ((sg a p k + 1 : Nat) : Int)), Z_const,
    sign_count (fun k => decide (p / 2 < a * (k + 1) % p)), Z_prodN (fun k => k + 1), Z_prodN (fun k => sg a p k + 1)] at h1
  have hpr : prodN (p / 2) (fun k => sg a p k + 1) = prodN (p / 2) (fun k => k + 1) := by
    have := ((sg_perm ho hc).map (fun k => k + 1)).prod_nat
    rw [List.map_map] at this
    exact this
  rw [hpr] at h1
  have hF : Nat.Coprime (prodN (p / 2) (fun k => k + 1)) p := prodN_coprime hp _ (by omega)
  generalize prodN (p / 2) (fun k => k + 1) = F at *
  have hs : ∀ s : Int, ((a : Int) ^ (p / 2) * (F : Int)) % (p : Int) = (s * (F : Int)) % (p : Int) → (a : Int) ^ (p / 2) % (p : Int) = s % (p : Int) := by
    intro s hs
    apply emod_eq_of_dvd_sub
    have hd := dvd_sub_of_emod_eq hs
    rw [← Int.sub_mul] at hd
    have hn : p ∣ ((a : Int) ^ (p / 2) - s).natAbs * F := by
      have := Int.natAbs_dvd_natAbs.2 hd
      rwa [Int.natAbs_mul, Int.natAbs_natCast, Int.natAbs_natCast] at this
    have := Nat.Coprime.dvd_of_dvd_mul_right hF.symm hn
    exact Int.dvd_natAbs.1 (Int.natCast_dvd_natCast.2 this)
  have hmu : mu a p = (List.range (p / 2)).countP (fun k => decide (p / 2 < a * (k + 1) % p)) := rfl
  rw [← hmu] at h1
  have h2 := hs _ h1
  have hcast : ((a ^ (p / 2) % p : Nat) : Int) = (a : Int) ^ (p / 2) % (p : Int) := by rw [Int.natCast_emod, Int.natCast_pow]
  rw [← hcast] at h2
  unfold jac
  by_cases hm : mu a p % 2 = 0
  · rw [if_pos hm, Int.emod_eq_of_lt (by omega) (by omega)] at h2
    simp [hm]; omega
  · rw [if_neg hm] at h2
    have : (-1 : Int) % (p : Int) = p - 1 := by
      rw [show (-1 : Int) = (p - 1) + (-1) * p by omega, Int.add_mul_emod_self_right]
      exact Int.emod_eq_of_lt (by omega) (by omega)
    rw [this] at h2
    have hm1 : mu a p % 2 = 1 := by omega
    simp [hm1]; omega

end Fk

/-! The group, in plain words: elements, products, powers, numbers. -/
namespace Fk

/-- the order of the group, as an exponent -/
def qq : Nat := 1073741789
theorem qq_eq : qq = 1073741789 := rfl
def vld (x : Int) : Bool := decide (1 ≤ x) && (decide (x < 2147483579) && jac x.toNat 2147483579)
def pwr (a n : Int) : Int := ((a.toNat ^ n.toNat % 2147483579 : Nat) : Int)
def mulC (a b : Int) : Int := if vld a && vld b then a * b % 2147483579 else 0
def mulE (a b : Int) : Int := if vld a && vld b then 0 else 90
def powC (a n : Int) : Int := if vld a then pwr a (n % 1073741789) else 0
def powE (a : Int) : Int := if vld a then 0 else 90
def elC (n : Int) : Int := if 1 ≤ n ∧ n ≤ 1073741789 then (if vld n then n else 2147483579 - n) else 0
def elE (n : Int) : Int := if 1 ≤ n ∧ n ≤ 1073741789 then 0 else 1
def numC (x : Int) : Int := if vld x then (if x ≤ 1073741789 then x else 2147483579 - x) else 0
def numE (x : Int) : Int := if vld x then 0 else 90

theorem vld_lo {x : Int} (h : vld x = true) : 1 ≤ x := by simp [vld] at h; exact h.1
theorem vld_hi {x : Int} (h : vld x = true) : x < 2147483579 := by simp [vld] at h; exact h.2.1
theorem vld_jac {x : Int} (h1 : 1 ≤ x) (h2 : x < 2147483579) : vld x = jac x.toNat 2147483579 := by simp [vld, h1, h2]
theorem vld_out {x : Int} (h : ¬ (1 ≤ x ∧ x < 2147483579)) : vld x = false := by
  by_cases h1 : 1 ≤ x
  · have h2 : ¬ x < 2147483579 := fun hc => h ⟨h1, hc⟩
    simp [vld, h2]
  · simp [vld, h1]

/-! ### powers -/
def PInv (a n c x m : Nat) : Prop := c * x ^ m % 2147483579 = a ^ n % 2147483579
theorem PInv.start (a n : Nat) : PInv a n 1 a n := by simp [PInv]
theorem pow_half (x m : Nat) : x ^ m % 2147483579 = (if m % 2 = 1 then x * (x * x % 2147483579) ^ (m / 2) else (x * x % 2147483579) ^ (m / 2)) % 2147483579 := by
  have e : (x * x % 2147483579) ^ (m / 2) % 2147483579 = x ^ (2 * (m / 2)) % 2147483579 := by
    rw [← Nat.pow_mod, Nat.pow_mul, Nat.pow_two]
  by_cases h : m % 2 = 1
  · rw [if_pos h, Nat.mul_mod, e, ← Nat.mul_mod, ← Nat.pow_succ']
    congr 2; omega
  · rw [if_neg h, e]; congr 2; omega
theorem PInv.odd {a n c x m : Nat} (h : PInv a n c x m) (ho : m % 2 = 1) : PInv a n (c * x % 2147483579) (x * x % 2147483579) (m / 2) := by
  unfold PInv at *
  rw [← h, Nat.mul_mod c (x ^ m), pow_half x m, if_pos ho, Nat.mul_mod (c * x % 2147483579), Nat.mod_mod, ← Nat.mul_mod, ← Nat.mul_mod, Nat.mul_assoc]
theorem PInv.even {a n c x m : Nat} (h : PInv a n c x m) (ho : ¬ m % 2 = 1) : PInv a n c (x * x % 2147483579) (m / 2) := by
  unfold PInv at *
  rw [← h, Nat.mul_mod c (x ^ m), pow_half x m, if_neg ho, ← Nat.mul_mod]
theorem PInv.done {a n c x : Nat} (h : PInv a n c x 0) (hc : c < 2147483579) : c = a ^ n % 2147483579 := by
  unfold PInv at h
  rw [Nat.pow_zero, Nat.mul_one, Nat.mod_eq_of_lt hc] at h
  exact h

theorem pwr_nonneg (a n : Int) : 0 ≤ pwr a n := Int.natCast_nonneg _
theorem pwr_lt (a n : Int) : pwr a n < 2147483579 := by
  unfold pwr
  have := Nat.mod_lt (a.toNat ^ n.toNat) (show 0 < 2147483579 by omega)
  omega

/-- what an element is -/
theorem vld_pow {x : Int} (h1 : 1 ≤ x) (h2 : x < 2147483579) : vld x = (pwr x 1073741789 == 1) := by
  rw [vld_jac h1 h2]
  have h := euler (p := 2147483579) (a := x.toNat) isP_P (by omega) (by rw [Nat.mod_eq_of_lt (by omega)]; omega)
  have e : (2147483579 : Nat) / 2 = 1073741789 := by omega
  rw [e] at h
  unfold pwr
  have e2 : (1073741789 : Int).toNat = 1073741789 := rfl
  rw [e2, h]
  cases jac x.toNat 2147483579 <;> rfl

theorem tmod_neg {n m : Int} (hm : 0 < m) (h : n.tmod m < 0) : n.tmod m + m = n % m := by
  have h1 := Int.emod_nonneg n (show m ≠ 0 by omega)
  have h2 := Int.emod_lt_of_pos n hm
  have h3 : (m.natAbs : Int) = m := by omega
  have e := Int.tmod_eq_emod (a := n) (b := m)
  split at e <;> omega
theorem tmod_pos {n m : Int} (hm : 0 < m) (h : 0 ≤ n.tmod m) : n.tmod m = n % m := by
  have h1 := Int.emod_nonneg n (show m ≠ 0 by omega)
  have h2 := Int.emod_lt_of_pos n hm
  have h3 : (m.natAbs : Int) = m := by omega
  have e := Int.tmod_eq_emod (a := n) (b := m)
  split at e <;> omega
theorem tmod_add_mod {n m : Int} (hm : 0 < m) : (n.tmod m + m) % m = n % m := by
  have h1 := Int.emod_nonneg n (show m ≠ 0 by omega)
  have h2 := Int.emod_lt_of_pos n hm
  rcases Int.lt_or_le (n.tmod m) 0 with h | h
  · rw [tmod_neg hm h]; exact Int.emod_eq_of_lt h1 h2
  · rw [tmod_pos hm h, Int.add_emod_right]; exact Int.emod_eq_of_lt h1 h2
/-! ### the squares that an iterator yields -/
def sqList : Nat → Nat → Nat → List (Nat × Bool)
  | 0, _, _ => []
  | f + 1, a, n => if n = 0 then [] else (a, n % 2 == 1) :: sqList f (a * a % 2147483579) (n / 2)
theorem sqList_zero (f a : Nat) : sqList f a 0 = [] := by cases f <;> simp [sqList]
theorem sqList_pos {f a n : Nat} (hn : 0 < n) (hf : n ≤ f) : ∃ f', n / 2 ≤ f' ∧ sqList f a n = (a, n % 2 == 1) :: sqList f' (a * a % 2147483579) (n / 2) := by
  cases f with
  | zero => omega
  | succ f => exact ⟨f, by omega, by rw [sqList, if_neg (by omega)]⟩
/-- the product after k rounds -/
def sqProd (l : List (Nat × Bool)) : Nat := l.foldl (fun c p => if p.2 then c * p.1 % 2147483579 else c) 1
theorem sqProd_snoc (l : List (Nat × Bool)) (p : Nat × Bool) : sqProd (l ++ [p]) = if p.2 then sqProd l * p.1 % 2147483579 else sqProd l := by simp [sqProd]
theorem sqProd_lt (l : List (Nat × Bool)) : sqProd l < 2147483579 := by
  suffices h : ∀ (l : List (Nat × Bool)) (c : Nat), c < 2147483579 → l.foldl (fun c p => if p.2 then c * p.1 % 2147483579 else c) c < 2147483579 from h l 1 (by omega)
  intro l
  induction l with
  | nil => intro c hc; exact hc
  | cons p l ih =>
    intro c hc
    rw [List.foldl_cons]
    apply ih
    split
    · exact Nat.mod_lt _ (by omega)
    · exact hc
theorem sqList_lt : ∀ (f a n : Nat), a < 2147483579 → ∀ p ∈ sqList f a n, p.1 < 2147483579
  | 0, _, _, _, p, hp => by simp [sqList] at hp
  | f + 1, a, n, ha, p, hp => by
    rw [sqList] at hp
    split at hp
    · simp at hp
    · rcases List.mem_cons.1 hp with rfl | h
      · exact ha
      · exact sqList_lt f _ _ (Nat.mod_lt _ (by omega)) p h
theorem sqList_inv (a n : Nat) : ∀ (f x m c : Nat), m ≤ f → PInv a n c x m → c < 2147483579 →
    (sqList f x m).foldl (fun c p => if p.2 then c * p.1 % 2147483579 else c) c = a ^ n % 2147483579
  | 0, x, m, c, hf, h, hc => by
    obtain rfl : m = 0 := by omega
    simp [sqList]; exact h.done hc
  | f + 1, x, m, c, hf, h, hc => by
    rw [sqList]
    split
    · rename_i h0; subst h0; exact h.done hc
    · rename_i h0
      rw [List.foldl_cons]
      by_cases ho : m % 2 = 1
      · rw [if_pos (by simp [ho])]
        exact sqList_inv a n f _ _ _ (by omega) (h.odd ho) (Nat.mod_lt _ (by omega))
      · rw [if_neg (by simp [ho])]
        exact sqList_inv a n f _ _ _ (by omega) (h.even ho) hc
theorem sqProd_all (a n : Nat) : sqProd (sqList n a n) = a ^ n % 2147483579 := sqList_inv a n n a n 1 (Nat.le_refl _) (PInv.start a n) (by omega)
/-! ### powers that the kernel can reckon -/
def pmod : Nat → Nat → Nat → Nat → Nat
  | 0, _, _, c => c
  | f + 1, x, m, c => if m = 0 then c else pmod f (x * x % 2147483579) (m / 2) (if m % 2 = 1 then c * x % 2147483579 else c)
theorem pmod_inv (a n : Nat) : ∀ (f x m c : Nat), m < 2 ^ f → PInv a n c x m → c < 2147483579 → pmod f x m c = a ^ n % 2147483579
  | 0, x, m, c, hf, h, hc => by
    obtain rfl : m = 0 := by simpa using hf
    exact h.done hc
  | f + 1, x, m, c, hf, h, hc => by
    rw [pmod]
    split
    · rename_i h0; subst h0; exact h.done hc
    · have h2 : 2 ^ (f + 1) = 2 ^ f * 2 := Nat.pow_succ 2 f
      by_cases ho : m % 2 = 1
      · rw [if_pos ho]
        exact pmod_inv a n f _ _ _ (by omega) (h.odd ho) (Nat.mod_lt _ (by omega))
      · rw [if_neg ho]
        exact pmod_inv a n f _ _ _ (by omega) (h.even ho) hc
def vldK (x : Int) : Bool := decide (1 ≤ x) && (decide (x < 2147483579) && pmod 31 x.toNat 1073741789 1 == 1)
theorem vld_K (x : Int) : vld x = vldK x := by
  by_cases h : 1 ≤ x ∧ x < 2147483579
  · rw [vld_pow h.1 h.2]
    unfold pwr vldK
    rw [show (1073741789 : Int).toNat = 1073741789 from rfl, ← pmod_inv x.toNat 1073741789 31 x.toNat 1073741789 1 (by omega) (PInv.start _ _) (by omega)]
    simp only [h.1, h.2, decide_true, Bool.true_and]
    generalize pmod 31 x.toNat 1073741789 1 = r
    by_cases hr : r = 1
    · simp [hr]
    · have : ¬ (r : Int) = 1 := by omega
      rw [beq_eq_false_iff_ne.2 hr, beq_eq_false_iff_ne.2 this]
  · rw [vld_out h]
    unfold vldK
    by_cases h1 : 1 ≤ x
    · have h2 : decide (x < 2147483579) = false := by simp; omega
      rw [h2]; simp
    · have h2 : decide (1 ≤ x) = false := by simp; omega
      rw [h2]; simp
theorem vld_1 : vld 1 = true := by rw [vld_K]; decide +kernel
theorem vld_2 : vld 2 = false := by rw [vld_K]; decide +kernel
theorem vld_4 : vld 4 = true := by rw [vld_K]; decide +kernel
end Fk

namespace Go.Proofs.YthckledagggoiaaGreatDoor
open Go.RowKit Fk

/-- what holds at the head of each loop of group.Valid -/
def VInv (X x n : Nat) (sq : Bool) : Prop := n % 2 = 1 ∧ Nat.Coprime x n ∧ (sq == jac x n) = jac X 2147483579
theorem VInv.half {X x n : Nat} {sq sq' : Bool} (h : VInv X x n sq) (hx : x % 2 = 0) (hs : sq' = (sq ^^ (n % 8 == 3 || n % 8 == 5))) : VInv X (x / 2) n sq' := by
  obtain ⟨ho, hc, he⟩ := h
  have e : x = 2 * (x / 2) := by omega
  have hc2 : Nat.Coprime 2 n := by
    have : Nat.Coprime (2 * (x / 2)) n := e ▸ hc
    exact Nat.Coprime.coprime_mul_right this
  have hc3 : Nat.Coprime (x / 2) n := by
    have : Nat.Coprime (2 * (x / 2)) n := e ▸ hc
    exact Nat.Coprime.coprime_mul_left this
  refine ⟨ho, hc3, ?_⟩
  rw [← he, hs]
  conv => rhs; rw [e, jac_mul ho hc2 hc3, jac_two ho]
  cases sq <;> cases jac (x / 2) n <;> cases (n % 8 == 3 || n % 8 == 5) <;> rfl
theorem VInv.step {X x n : Nat} {sq sq' : Bool} (h : VInv X x n sq) (hx : x % 2 = 1) (h1 : 1 < x) (hs : sq' = (sq ^^ (x % 4 == 3 && n % 4 == 3))) : VInv X (n % x) x sq' ∧ 1 ≤ n % x := by
  obtain ⟨ho, hc, he⟩ := h
  have hc' : Nat.Coprime (n % x) x := by
    have : Nat.Coprime n x := hc.symm
    rwa [Nat.Coprime, ← Nat.gcd_rec, Nat.gcd_comm] at *
  refine ⟨⟨hx, hc', ?_⟩, ?_⟩
  · rw [← he, hs, jac_mod, recip hx ho hc]
    cases sq <;> cases jac n x <;> cases (x % 4 == 3 && n % 4 == 3) <;> rfl
  · rcases Nat.eq_zero_or_pos (n % x) with h0 | h0
    · rw [h0] at hc'
      have := Nat.coprime_zero_left x |>.1 hc'
      omega
    · exact h0
theorem VInv.one {X n : Nat} {sq : Bool} (h : VInv X 1 n sq) : sq = jac X 2147483579 := by
  obtain ⟨ho, _, he⟩ := h
  rw [jac_one ho] at he
  rw [← he]; cases sq <;> rfl
theorem VInv.start {x : Nat} (h1 : 1 ≤ x) (h2 : x < 2147483579) : VInv x x 2147483579 true :=
  ⟨by omega, isP_P.coprime (by rw [Nat.mod_eq_of_lt h2]; omega), by simp⟩
theorem ret_bool {a b : Bool} (h : a = b) : Ending.returned (.bool a) = .returned (.bool b) := by rw [h]

set_option maxHeartbeats 1000000 in
theorem valid_in (x : Int) (h1 : 1 ≤ x) (h2 : x < 2147483579) (w : World) :
    Calls Tryz.prog 59 #[.int .i64 x] w fun e w' => e = .returned (.bool (jac x.toNat 2147483579)) ∧ w = w' := by
  have a1 : decide (x < 1) = false := by simp; omega
  have a2 : decide (2147483579 ≤ x) = false := by simp; omega
  go_enter Tryz.func59, Tryz.ntmps59
  go_wp2
  go_step3
  go_wp2
  go_step3
  go_wp2
  clear a1 a2
  go_loopg [0, 3, 4] x.toNat (fun k p n s wr => w = wr ∧ ∃ (n' : Nat) (sq : Bool), p = .int .i64 k ∧ n = .int .i64 n' ∧ s = .bool sq ∧ 1 ≤ k ∧ k < 2147483579 ∧ n' < 2147483580 ∧ VInv x.toNat k n' sq)
  case atStart => exact ⟨rfl, 2147483579, true, by simp; omega, rfl, rfl, by omega, by omega, by omega, VInv.start (by omega) (by omega)⟩
  case round =>
    obtain ⟨rfl, n', sq, rfl, rfl, rfl, b1, b2, b3, hI⟩ := hrel
    obtain ⟨G, rfl⟩ : ∃ G : Nat, G = gk := ⟨_, rfl⟩
    by_cases hx : 1 < G
    · have hx' : decide (1 < (G : Int)) = true := by simp; omega
      go_wp2
      go_loopg [0, 4] G (fun k p s wr => w = wr ∧ ∃ (sq' : Bool), p = .int .i64 k ∧ s = .bool sq' ∧ 1 ≤ k ∧ k ≤ G ∧ VInv x.toNat k n' sq')
      case atStart => exact ⟨rfl, sq, rfl, rfl, b1, Nat.le_refl _, hI⟩
      case round =>
        clear hI
        obtain ⟨rfl, sq', rfl, rfl, c1, c2, hI⟩ := hrel
        by_cases he : gk % 2 = 0
        · have hI2 := VInv.half hI he (sq' := (sq' ^^ (n' % 8 == 3 || n' % 8 == 5))) rfl
          by_cases h3 : n' % 8 = 3
          · have e3 : (n' % 8 == 3 || n' % 8 == 5) = true := by simp [h3]
            rw [e3, Bool.xor_true] at hI2
            have t3 : ((n' : Int) % 8 == 3) = true := by simp; omega
            clear e3 hI h3
            go_wp2
            go_roundg (gk / 2)
            case measure => omega
            case rel => exact ⟨rfl, !sq', by go_num, rfl, by omega, by omega, hI2⟩
          have t3 : ((n' : Int) % 8 == 3) = false := by simp; omega
          by_cases h5 : n' % 8 = 5
          · have e3 : (n' % 8 == 3 || n' % 8 == 5) = true := by simp [h5]
            rw [e3, Bool.xor_true] at hI2
            have t5 : ((n' : Int) % 8 == 5) = true := by simp; omega
            clear e3 hI h3 h5
            go_wp2
            go_roundg (gk / 2)
            case measure => omega
            case rel => exact ⟨rfl, !sq', by go_num, rfl, by omega, by omega, hI2⟩
          · have e3 : (n' % 8 == 3 || n' % 8 == 5) = false := by simp [h3, h5]
            rw [e3, Bool.xor_false] at hI2
            have t5 : ((n' : Int) % 8 == 5) = false := by simp; omega
            clear e3 hI h3 h5
            go_wp2
            go_roundg (gk / 2)
            case measure => omega
            case rel => exact ⟨rfl, sq', by go_num, rfl, by omega, by omega, hI2⟩
        · by_cases h1 : gk = 1
          · have hI2 := VInv.one (h1 ▸ hI)
            go_wp2
            rw [Exit.noGoto_ret]
            go_ret
            exact ⟨ret_bool hI2, rfl⟩
          · have hI2 := VInv.step hI (by omega) (by omega) (sq' := (sq' ^^ (gk % 4 == 3 && n' % 4 == 3))) rfl
            have hlt := Nat.mod_lt n' (show 0 < gk by omega)
            by_cases h3 : gk % 4 = 3 ∧ n' % 4 = 3
            · obtain ⟨h3, h4⟩ := h3
              have e3 : (gk % 4 == 3 && n' % 4 == 3) = true := by simp [h3, h4]
              rw [e3, Bool.xor_true] at hI2
              clear e3 hI
              go_wp2
              go_roundg (n' % gk)
              case measure => omega
              case rel => exact ⟨rfl, gk, !sq', by go_num, rfl, rfl, hI2.2, by omega, by omega, hI2.1⟩
            · have e3 : (gk % 4 == 3 && n' % 4 == 3) = false := by
                by_cases h4 : gk % 4 = 3
                · have : ¬ n' % 4 = 3 := fun h => h3 ⟨h4, h⟩
                  simp [this]
                · simp [h4]
              rw [e3, Bool.xor_false] at hI2
              clear e3 hI
              by_cases h4 : gk % 4 = 3
              · have h5 : ¬ n' % 4 = 3 := fun h => h3 ⟨h4, h⟩
                clear h3
                go_wp2
                go_roundg (n' % gk)
                case measure => omega
                case rel => exact ⟨rfl, gk, sq', by go_num, rfl, rfl, hI2.2, by omega, by omega, hI2.1⟩
              · clear h3
                go_wp2
                go_roundg (n' % gk)
                case measure => omega
                case rel => exact ⟨rfl, gk, sq', by go_num, rfl, rfl, hI2.2, by omega, by omega, hI2.1⟩
    · obtain rfl : G = 1 := by omega
      have hI2 := VInv.one hI
      go_wp2
      rw [Exit.noGoto_ret]
      go_ret
      exact ⟨ret_bool hI2, rfl⟩

set_option maxHeartbeats 400000 in
theorem valid_out (x : Int) (h : ¬ (1 ≤ x ∧ x < 2147483579)) (w : World) :
    Calls Tryz.prog 59 #[.int .i64 x] w fun e w' => e = .returned (.bool false) ∧ w = w' := by
  by_cases h1 : x < 1
  · go_enter Tryz.func59, Tryz.ntmps59
    go_wp2
    go_step3
    go_wp2
    rw [Exit.noGoto_ret]
    go_ret
    exact ⟨rfl, rfl⟩
  · have h2 : 2147483579 ≤ x := by omega
    clear h
    go_enter Tryz.func59, Tryz.ntmps59
    go_wp2
    go_step3
    go_wp2
    rw [Exit.noGoto_ret]
    go_ret
    exact ⟨rfl, rfl⟩
theorem valid_any (x : Int) (w : World) :
    Calls Tryz.prog 59 #[.int .i64 x] w fun e w' => e = .returned (.bool (vld x)) ∧ w = w' := by
  by_cases h : 1 ≤ x ∧ x < 2147483579
  · rw [vld_jac h.1 h.2]; exact valid_in x h.1 h.2 w
  · rw [vld_out h]; exact valid_out x h w
end Go.Proofs.YthckledagggoiaaGreatDoor

/-! A range over a function whose iterator may keep state of its own in memory: the iterator's contract lists what it yields, names the blocks that it writes (X) and those on which it leans (Y). -/
namespace Fk
open Go Go.RowKit

/-- J stands whatever becomes of the blocks of X, and of what is new. -/
def Ab {β : Type} (X : Nat → Prop) (J : β → World → Prop) : Prop :=
  ∀ s W W' row, J s W → W.grownBy W' row → (∀ r, row = some r → X r) → J s W'
def SameOn (Y : Nat → Prop) (W W' : World) : Prop := ∀ r, Y r → W'.heap[r]? = W.heap[r]?
theorem SameOn.refl (Y : Nat → Prop) (W : World) : SameOn Y W W := fun _ _ => rfl
theorem SameOn.trans {Y : Nat → Prop} {A B C : World} (h : SameOn Y A B) (k : SameOn Y B C) : SameOn Y A C := fun r hr => (k r hr).trans (h r hr)
theorem SameOn.putObj {Y : Nat → Prop} {W : World} {l : Nat} (o : Obj) (h : ¬ Y l) : SameOn Y W (W.putObj l o) :=
  fun _ hr => World.putObj_heap_other (fun e => h (e ▸ hr))
theorem SameOn.below {Y : Nat → Prop} {n : Nat} {W W' : World} (h : Below n W W') (hY : ∀ r, Y r → r < n) : SameOn Y W W' := fun r hr => h.block r (hY r hr)
/-- the two blocks of the loop's own book-keeping lie as they lay -/
structure Kept (B : Nat) (W W' : World) : Prop where
  size : W.heap.size ≤ W'.heap.size
  one : W'.heap[B]? = W.heap[B]?
  two : W'.heap[B + 1]? = W.heap[B + 1]?
theorem Kept.refl (B : Nat) (W : World) : Kept B W W := ⟨Nat.le_refl _, rfl, rfl⟩
theorem Kept.trans {B : Nat} {X Y Z : World} (h : Kept B X Y) (k : Kept B Y Z) : Kept B X Z := ⟨Nat.le_trans h.size k.size, k.one.trans h.one, k.two.trans h.two⟩
theorem Kept.below {B n : Nat} {W W' : World} (h : Below n W W') (hn : B + 2 ≤ n) (hs : W.heap.size ≤ W'.heap.size) : Kept B W W' := ⟨hs, h.block B (by omega), h.block (B + 1) (by omega)⟩
theorem Kept.grown {B : Nat} {W W' : World} {row : Option Nat} (h : W.grownBy W' row) (hs : B + 2 ≤ W.heap.size) (h1 : row ≠ some B) (h2 : row ≠ some (B + 1)) : Kept B W W' :=
  ⟨h.size, h.block B (by omega) (fun e => h1 e.symm), h.block (B + 1) (by omega) (fun e => h2 e.symm)⟩
theorem Kept.setCell {B : Nat} (W : World) {p : Addr} (u : Value) (h1 : p.block ≠ B) (h2 : p.block ≠ B + 1) : Kept B W (W.setCell p u) :=
  ⟨by simp [World.setCell], Below.heap_setCell W p u B (fun e => h1 e.symm), Below.heap_setCell W p u (B + 1) (fun e => h2 e.symm)⟩
theorem Kept.alloc {B : Nat} (W : World) (o : Obj) (hs : B + 2 ≤ W.heap.size) : Kept B W (W.alloc o) :=
  ⟨by simp, Below.heap_alloc W o B (by omega), Below.heap_alloc W o (B + 1) (by omega)⟩
theorem Kept.drew (B : Nat) (W : World) : Kept B W W.drew := ⟨Nat.le_refl _, rfl, rfl⟩
theorem Kept.drewN (B : Nat) (W : World) (n : Nat) : Kept B W (W.drewN n) := ⟨Nat.le_refl _, rfl, rfl⟩

/-- **An iterator's contract**: it yields vals in order, till a round says 'no more'. -/
def SeqL (F : Fence) (n : Nat) (P : Program) (g : Nat) (lb : Array Value) (vals : List (Array Value)) (X Y : Nat → Prop) (T : World → Prop) (K : Nat) : Prop :=
  ∀ (l : Nat) (J Jx : Nat → World → Prop) (W : World), T W → W.heap.size = K → Ab X J → Ab X Jx →
    (∀ k v W1, J k W1 → K ≤ W1.heap.size → vals[k]? = some v → YieldAt F (n - 1) P l v W1 fun e W' =>
      (e = .returned (.bool true) ∧ J (k + 1) W' ∧ SameOn Y W1 W' ∧ W1.heap.size ≤ W'.heap.size) ∨ (e = .returned (.bool false) ∧ Jx (k + 1) W')) →
    J 0 W →
    CallsIn F n P g (#[.func (.yield l) #[] #[]] ++ lb) W fun e W' => (∃ v, e = .returned v) ∧ (J vals.length W' ∨ ∃ k, k < vals.length ∧ Jx (k + 1) W')

/-- How the body of a round may be left. -/
def postL (B : Nat) (Y : Nat → Prop) (I : Nat → World → Prop) (Ix : Code → Nat → World → Prop) (k : Nat) (W : World) : Exit → Act → World → Prop
  | .normal, _, W' => Kept B W W' ∧ SameOn Y W W' ∧ I k W'
  | .ret, _, W' => Kept B W W' ∧ Ix .ret k W'
  | .exit id, _, W' => Kept B W W' ∧ Ix (.exit id) k W'
  | .goto t, _, W' => Kept B W W' ∧ Ix (.goto t) k W'
  | .panic _, _, _ => False
  | .outgrown, _, _ => False

variable {F : Fence} {n : Nat} {P : Program}
theorem Ab.put {β : Type} {X : Nat → Prop} {J : β → World → Prop} (h : Ab X J) {s : β} {W : World} {l : Nat} (o : Obj) (hs : J s W) (hl : X l) : J s (W.putObj l o) :=
  h s W _ (some l) hs (grownBy_putObj' W l o) (fun r e => by cases e; exact hl)
theorem Ab.new {β : Type} {X : Nat → Prop} {J : β → World → Prop} (h : Ab X J) {s : β} {W : World} (o : Obj) (hs : J s W) : J s (W.alloc o) :=
  h s W _ none hs (World.grownBy_alloc W o none) (fun r e => by cases e)

set_option maxHeartbeats 1000000 in
/-- **The law of the statement**, outside every round. The loop's own two blocks are number w.heap.size (deferred calls) and w.heap.size + 1 (its record). -/
theorem wpIn_rangeL {g : Operand} {ps : Array Tmp} {assign body : Code} {Q : Exit → Act → World → Prop} {a : Act} {w : World}
    (hro : F.round = none) (h1 : 1 ≤ n) {gf : Nat} {lb : Array Value} (hg : a.eval g = .func (.func gf) #[] lb) (hFg : F.fn gf) (eg : ∀ args w, (callFunc gf args).run P w = .ok (.enter gf args) w)
    {vals : List (Array Value)} {X Y : Nat → Prop} {T : World → Prop} (hseq : SeqL F (n - 1) P gf lb vals X Y T (w.heap.size + 2))
    (hT : ∀ W, Below w.heap.size w W → T W) (hY : ¬ Y (w.heap.size + 1)) (hX0 : ¬ X w.heap.size) (hX1 : ¬ X (w.heap.size + 1)) (hps : ∀ v, v ∈ vals → v.size = ps.size)
    (I : Nat → World → Prop) (Ix : Code → Nat → World → Prop) (hI : Ab (fun r => X r ∨ r = w.heap.size + 1) I) (hIx : ∀ c, Ab (fun r => X r ∨ r = w.heap.size + 1) (Ix c)) (h0 : I 0 w)
    (Ax : Nat → Act → World → Prop) (hAx : ∀ k a', Ab (fun r => r = w.heap.size + 1) (fun (_ : Unit) W => Ax k a' W))
    (hassign : ∀ (l k : Nat) (v : Array Value) (W : World) (K : Act → World → Prop), I k W → vals[k]? = some v → w.heap.size + 2 ≤ W.heap.size →
      (∀ a' W', Kept w.heap.size W W' → SameOn Y W W' → I k W' → Ax k a' W' → K a' W') →
      assign.wpIn (F.inRound l) (n - 1 - 1) P (Exit.then K (fun _ _ _ => False)) { tmps := (ps.zip v).foldl (fun t (p, v) => t.setIfInBounds p v) a.tmps, defers := [] } W)
    (hbody : ∀ (l k : Nat) (v : Array Value) (a' : Act) (W : World), I k W → Ax k a' W → vals[k]? = some v → w.heap.size + 2 ≤ W.heap.size →
      body.wpIn (F.inRound l) (n - 1 - 1) P (postL w.heap.size Y I Ix (k + 1) W) a' W)
    (hdone : ∀ (W : World), I vals.length W → w.heap.size + 2 ≤ W.heap.size → W.heap[w.heap.size]? = some (.deferred (some [])) →
      Q .normal { a with defers := { target := .collected w.heap.size, args := #[] } :: a.defers } W)
    (hstop : ∀ (c : Code) (k : Nat) (W : World), k < vals.length → Ix c (k + 1) W → w.heap.size + 2 ≤ W.heap.size → W.heap[w.heap.size]? = some (.deferred (some [])) →
      c.wpIn F n P Q { a with defers := { target := .collected w.heap.size, args := #[] } :: a.defers } W) :
    (Code.rangeFunc g ps assign body).wpIn F n P Q a w := by
  refine wpIn_rangeFunc fun fn hfn => ?_
  rw [hro]
  generalize hB : w.heap.size = B at *
  let rec' : LoopState → Option Code → Loop := fun st pe => { state := st, pending := pe, fn, tmps := a.tmps, params := ps, assign, body, defers := B }
  let Good : World → LoopState → Option Code → Prop := fun W st pe => W.heap[B + 1]? = some (.loop (rec' st pe)) ∧ W.heap[B]? = some (.deferred (some []))
  have good_lt : ∀ {W st pe}, Good W st pe → B + 2 ≤ W.heap.size := fun h => (Array.getElem?_eq_some_iff.1 h.1).1
  have good_put : ∀ {W st pe} st' pe', Good W st pe → Good (W.putObj (B + 1) (.loop (rec' st' pe'))) st' pe' := fun st' pe' h =>
    ⟨World.putObj_heap_same (Array.getElem?_eq_some_iff.1 h.1).1, (World.putObj_heap_other (by omega)).trans h.2⟩
  have good_kept : ∀ {W W' st pe}, Good W st pe → Kept B W W' → Good W' st pe := fun h k => ⟨k.two.trans h.1, k.one.trans h.2⟩
  have good_ab : ∀ {W W' row st pe}, Good W st pe → W.grownBy W' row → (∀ r, row = some r → X r) → Good W' st pe := fun h k hr =>
    ⟨(k.block (B + 1) (Array.getElem?_eq_some_iff.1 h.1).1 (fun e => hX1 (hr _ e.symm))).trans h.1,
      (k.block B (Array.getElem?_eq_some_iff.1 h.2).1 (fun e => hX0 (hr _ e.symm))).trans h.2⟩
  obtain ⟨W1, hW1⟩ : ∃ W1, (w.alloc (.deferred (some []))).alloc (.loop (rec' .ready none)) = W1 := ⟨_, rfl⟩
  have hG1 : Good W1 .ready none := by
    rw [← hW1]
    constructor
    · have := World.alloc_heap_new (w.alloc (.deferred (some []))) (.loop (rec' .ready none))
      rwa [World.size_alloc, hB] at this
    · have := (Below.heap_alloc (w.alloc (.deferred (some []))) (.loop (rec' .ready none)) w.heap.size (by simp)).trans (World.alloc_heap_new w _)
      rwa [hB] at this
  have hI1 : I 0 W1 := by rw [← hW1]; exact hI.new _ (hI.new _ h0)
  have hT1 : T W1 := hT W1 (by
    rw [← hW1, ← hB]
    exact ((Below.refl _ w).alloc (Nat.le_refl _) _).alloc (by simp) _)
  have hsz1 : W1.heap.size = B + 2 := by rw [← hW1, ← hB]; simp
  refine ⟨B + 1, [{ target := .collected B, args := #[] }], W1, { target := .fn (.func gf) lb, args := #[.func (.yield (B + 1)) #[] #[]] }, W1, gf, #[.func (.yield (B + 1)) #[] #[]] ++ lb, W1, ?_, ?_, ?_, ?_, fun _ => h1, ?_⟩
  · rw [← hW1]; subst hB; exact run_enterLoop_outer _ _ _ _ _
  · simp only [resolve, hg]; simp [go_sem]
  · intro f' hf'
    simp [Target.leads] at hf'; subst hf'; exact hFg
  · simp [invoke, go_sem, eg]
  refine (hseq (B + 1) (fun k W => I k W ∧ Good W .ready none) (fun k W => ∃ c, Ix c k W ∧ Good W .done (some c)) W1 hT1 hsz1
    (fun s A C row hs hg' hr => ⟨hI s A C row hs.1 hg' (fun r e => .inl (hr r e)), good_ab hs.2 hg' hr⟩)
    (fun s A C row ⟨c, hs, hG⟩ hg' hr => ⟨c, hIx c s A C row hs hg' (fun r e => .inl (hr r e)), good_ab hG hg' hr⟩) ?_ ⟨hI1, hG1⟩).mono ?_
  · -- one round
    rintro k v W ⟨hi, hG⟩ _ hv
    have hy := run_yield (P := P) (args := v) hG.1 (hps v (List.mem_of_getElem? hv))
    refine ⟨fn, _, assign, body, hy, roundIn_of_wpIn hfn (hassign _ k v W _ hi hv (good_lt hG) ?_)⟩
    intro a' Wa hka hsa hia hax
    have hGa := good_kept hG hka
    refine ⟨_, run_beginRound hGa.1 rfl, ?_⟩
    have hGb := good_put .busy none hGa
    refine wpIn_mono (hbody _ k v a' _ (hI.put _ hia (.inr rfl)) ((hAx k a').put (s := ()) _ hax rfl) hv (good_lt hGb)) ?_
    have fin : ∀ (jump : Option Code) (W3 : World), Kept B (Wa.putObj (B + 1) (.loop (rec' .busy none))) W3 →
        (Instr.endRound (B + 1) jump).run P W3 = .ok (.bool jump.isNone) (W3.putObj (B + 1) (.loop (rec' (if jump.isNone then .ready else .done) jump))) ∧
        Good (W3.putObj (B + 1) (.loop (rec' (if jump.isNone then .ready else .done) jump))) (if jump.isNone then .ready else .done) jump ∧ W3.heap.size = (W3.putObj (B + 1) (.loop (rec' (if jump.isNone then .ready else .done) jump))).heap.size := fun jump W3 hk3 => by
      have hG3 := good_kept hGb hk3
      exact ⟨run_endRound (P := P) jump hG3.1, good_put _ _ hG3, by simp⟩
    rintro e a3 W3 hp
    cases e with
    | normal =>
      obtain ⟨hk3, hs3, hi3⟩ := hp
      obtain ⟨hr, hG3, hz⟩ := fin none W3 hk3
      refine ⟨_, _, hr, .inl ⟨rfl, ⟨hI.put _ hi3 (.inr rfl), hG3⟩, ((hsa.trans (SameOn.putObj _ hY)).trans hs3).trans (SameOn.putObj _ hY), ?_⟩⟩
      rw [← hz]; have := hka.size; have := hk3.size; simp at this; omega
    | ret =>
      obtain ⟨hk3, hi3⟩ := hp
      obtain ⟨hr, hG3, _⟩ := fin (some .ret) W3 hk3
      exact ⟨_, _, hr, .inr ⟨rfl, .ret, (hIx _).put _ hi3 (.inr rfl), hG3⟩⟩
    | exit id =>
      obtain ⟨hk3, hi3⟩ := hp
      obtain ⟨hr, hG3, _⟩ := fin (some (.exit id)) W3 hk3
      exact ⟨_, _, hr, .inr ⟨rfl, .exit id, (hIx _).put _ hi3 (.inr rfl), hG3⟩⟩
    | goto t =>
      obtain ⟨hk3, hi3⟩ := hp
      obtain ⟨hr, hG3, _⟩ := fin (some (.goto t)) W3 hk3
      exact ⟨_, _, hr, .inr ⟨rfl, .goto t, (hIx _).put _ hi3 (.inr rfl), hG3⟩⟩
    | panic ch => exact hp.elim
    | outgrown => exact hp.elim
  · -- behind the iterator
    rintro e W2 ⟨⟨v, rfl⟩, (⟨hi, hG⟩ | ⟨k, hk, c, hi, hG⟩)⟩
    · have hlt := good_lt hG
      exact ⟨none, _, run_endLoop (P := P) hG.1 (by simp [rec']), hdone _ (hI.put _ hi (.inr rfl)) (by simp; exact hlt) ((World.putObj_heap_other (by omega)).trans hG.2)⟩
    · have hlt := good_lt hG
      exact ⟨some c, _, run_endLoop (P := P) hG.1 (by simp [rec']), hstop c k _ hk ((hIx c).put _ hi (.inr rfl)) (by simp; exact hlt) ((World.putObj_heap_other (by omega)).trans hG.2)⟩
end Fk

namespace Go.Proofs.YthckledagggoiaaGreatDoor
open Go.RowKit Fk

theorem ret_int {a b : Int} (h : a = b) : Ending.returned (.int .i64 a) = .returned (.int .i64 b) := by rw [h]
theorem ret_int2 {a b c d : Int} (h : a = c) (h' : b = d) : Ending.returned (.tuple #[.int .i64 a, .int .i64 b]) = .returned (.tuple #[.int .i64 c, .int .i64 d]) := by rw [h, h']

set_option maxHeartbeats 400000 in
theorem element_any (n : Int) (w : World) :
    Calls Tryz.prog 61 #[.int .i64 n] w fun e w' => e = .returned (.tuple #[.int .i64 (elC n), .int .i64 (elE n)]) ∧ w = w' := by
  by_cases h1 : 1 ≤ n
  · by_cases h2 : n ≤ 1073741789
    · have e2 : elE n = 0 := by simp [elE, h1, h2]
      rw [e2]; clear e2
      by_cases hv : vld n = true
      · have e1 : elC n = n := by simp [elC, h1, h2, hv]
        rw [e1]; clear e1
        go_enter Tryz.func61, Tryz.ntmps61
        go_wp2_with (go_at_call 59; refine (valid_any _ _).mono ?_; rintro e w' ⟨rfl, rfl⟩)
        go_ret2
        exact ⟨rfl, rfl⟩
      · have hv' : vld n = false := by simpa using hv
        have e1 : elC n = 2147483579 - n := by simp [elC, h1, h2, hv']
        rw [e1]; clear e1 hv
        go_enter Tryz.func61, Tryz.ntmps61
        go_wp2_with (go_at_call 59; refine (valid_any _ _).mono ?_; rintro e w' ⟨rfl, rfl⟩)
        go_ret2
        exact ⟨rfl, rfl⟩
    · have e1 : elC n = 0 := by simp [elC, h2]
      have e2 : elE n = 1 := by simp [elE, h2]
      rw [e1, e2]; clear e1 e2
      go_enter Tryz.func61, Tryz.ntmps61
      go_wp2
      go_ret2
      exact ⟨rfl, rfl⟩
  · have e1 : elC n = 0 := by simp [elC, h1]
    have e2 : elE n = 1 := by simp [elE, h1]
    rw [e1, e2]; clear e1 e2
    go_enter Tryz.func61, Tryz.ntmps61
    go_wp2
    go_ret2
    exact ⟨rfl, rfl⟩

set_option maxHeartbeats 400000 in
theorem number_any (x : Int) (w : World) :
    Calls Tryz.prog 71 #[.int .i64 x] w fun e w' => e = .returned (.tuple #[.int .i64 (numC x), .int .i64 (numE x)]) ∧ w = w' := by
  by_cases hv : vld x = true
  · have l1 := vld_lo hv
    have l2 := vld_hi hv
    have e2 : numE x = 0 := by simp [numE, hv]
    by_cases h : x ≤ 1073741789
    · have e1 : numC x = x := by simp [numC, hv, h]
      rw [e1, e2]; clear e1 e2
      go_enter Tryz.func71, Tryz.ntmps71
      go_wp2_with (go_at_call 59; refine (valid_any _ _).mono ?_; rintro e w' ⟨rfl, rfl⟩)
      all_goals go_ret2
      all_goals exact ⟨ret_int2 (by omega) rfl, rfl⟩
    · have e1 : numC x = 2147483579 - x := by simp [numC, hv, h]
      rw [e1, e2]; clear e1 e2
      go_enter Tryz.func71, Tryz.ntmps71
      go_wp2_with (go_at_call 59; refine (valid_any _ _).mono ?_; rintro e w' ⟨rfl, rfl⟩)
      all_goals go_ret2
      all_goals exact ⟨ret_int2 (by omega) rfl, rfl⟩
  · have hv' : vld x = false := by simpa using hv
    have e1 : numC x = 0 := by simp [numC, hv']
    have e2 : numE x = 90 := by simp [numE, hv']
    rw [e1, e2]; clear e1 e2 hv
    go_enter Tryz.func71, Tryz.ntmps71
    go_wp2_with (go_at_call 59; refine (valid_any _ _).mono ?_; rintro e w' ⟨rfl, rfl⟩)
    go_ret2
    exact ⟨rfl, rfl⟩
end Go.Proofs.YthckledagggoiaaGreatDoor

namespace Go.Proofs.YthckledagggoiaaGreatDoor
open Go.RowKit Go.Shelf Fk
attribute [local go_sem] Oper.semAt_some

def cellNat (w : World) (b : Nat) : Nat := match w.cell? ⟨b, 0, none⟩ with
  | some v => (intOf v).toNat
  | none => 0

theorem ofInt_i64 (a : Nat) (ha : a < 9223372036854775808) : (BitVec.ofInt 64 (a : Int)).toNat = a := by
  rw [BitVec.ofInt_natCast, BitVec.toNat_ofNat]; exact Nat.mod_eq_of_lt (by omega)
theorem bits_one (a : Nat) (ha : a < 9223372036854775808) : bits .and .i64 (a : Int) 1 = ((a % 2 : Nat) : Int) := by
  show IntKind.i64.wrap ((BitVec.ofInt 64 (a : Int) &&& BitVec.ofInt 64 1).toNat : Int) = _
  rw [BitVec.toNat_and, ofInt_i64 a ha]
  have e : (BitVec.ofInt 64 1).toNat = 1 := by decide
  rw [e, Nat.and_one_is_mod, IntKind.wrap_i64]
  omega
theorem lt_of_drop_cons {α : Type} {l : List α} {k : Nat} {x : α} {r : List α} (h : l.drop k = x :: r) : k < l.length := by
  rcases Nat.lt_or_ge k l.length with h1 | h1
  · exact h1
  · rw [List.drop_eq_nil_of_le h1] at h; cases h
theorem le_of_drop_nil {α : Type} {l : List α} {k : Nat} (h : ([] : List α) = l.drop k) : l.length ≤ k := List.drop_eq_nil_iff.1 h.symm
theorem sq_small {x : Nat} (h : x < 2147483579) : 0 ≤ (x : Int) * x ∧ (x : Int) * x ≤ 2147483579 * 2147483579 := by
  have m2 : x * x ≤ 2147483579 * 2147483579 := Nat.mul_le_mul (by omega) (by omega)
  have m4 : (x : Int) * x = ((x * x : Nat) : Int) := by simp
  omega

set_option maxHeartbeats 1000000 in
theorem squares_seq (a n : Nat) (ha : a < 2147483579) (hn : n < 2147483579) (ba bn K : Nat) (hne : ba ≠ bn) (m : Nat) (hm : 1 ≤ m) :
    SeqL Fence.wide m Tryz.prog 157 #[.pointer (some ⟨bn, 0, none⟩), .pointer (some ⟨ba, 0, none⟩)] ((sqList n a n).map fun p => #[.int .i64 (p.1 : Int), .bool p.2])
      (fun r => r = ba ∨ r = bn) (fun r => r = ba ∨ r = bn) (fun W => Boxed W ba 3 (.int .i64 a) ∧ Boxed W bn 3 (.int .i64 n)) K := fun l J Jx W hT hK hJ hJx hY h0 => by
  refine callsIn_of_wp Tryz.func157 rfl trivial ?_ rfl
  simp only [Tryz.ntmps157, List.size_toArray, List.length_cons, List.length_nil, Nat.reduceAdd, Nat.reduceSub, Array.replicate_succ, Array.replicate_zero, List.push_toArray, List.append_toArray, List.nil_append, List.cons_append]
  gi_wp2
  gi_loopw [] (fun wr => ∃ (k x n' f : Nat), Boxed wr ba 3 (.int .i64 x) ∧ Boxed wr bn 3 (.int .i64 n') ∧ J k wr ∧ K ≤ wr.heap.size ∧ k ≤ (sqList n a n).length ∧ n' ≤ f ∧ x < 2147483579 ∧ n' < 2147483579 ∧ Hid (sqList f x n' = (sqList n a n).drop k)) (fun wr => cellNat wr bn)
  case atStart => exact ⟨0, a, n, n, hT.1, hT.2, h0, by omega, Nat.zero_le _, Nat.le_refl _, ha, hn, rfl⟩
  case round =>
    obtain ⟨k, x, n', f, hBa, hBn, hJk, hKw, hkl, hf, hx, hn', hL⟩ := hrel
    have c1 := hBa.cell
    have c2 := hBn.cell
    have c3 := hBa.frozen
    have c4 := hBn.frozen
    by_cases h0' : 0 < n'
    · obtain ⟨f', hf', hsq⟩ := sqList_pos (a := x) h0' hf
      by_cases hp : n' % 2 = 1
      · have hv : ((sqList n a n).map fun p => (#[.int .i64 (p.1 : Int), .bool p.2] : Array Value))[k]? = some #[.int .i64 (x : Int), .bool true] := by
          have hpb : (n' % 2 == 1) = true := by simp [hp]
          have e : (sqList n a n)[k]? = some (x, true) := by
            have := congrArg (fun l => l[0]?) (hL.out.symm.trans hsq)
            simpa [hpb] using this
          rw [List.getElem?_map, e]; rfl
        have hL2 : Hid (sqList f' (x * x % 2147483579) (n' / 2) = (sqList n a n).drop (k + 1)) := by
          have := congrArg List.tail (hsq.symm.trans hL.out)
          rw [List.tail_cons, List.tail_drop] at this
          exact this
        obtain ⟨fn, tmps, assign, body, hy, hR⟩ := hY k _ wr hJk hKw hv
        have hb : bits .and .i64 (n' : Int) 1 = 1 := by rw [bits_one _ (by omega)]; omega
        have HSQ := hL.out.symm.trans hsq
        have HSQ' := Lib.hid HSQ
        clear hv hsq hL hp HSQ
        gi_wp2
        refine hR.mono ?_
        rintro e W3 (⟨rfl, hJ3, hS3, hz3⟩ | ⟨rfl, hJx3⟩)
        · have hBa3 : Boxed W3 ba 3 (.int .i64 x) := (hS3 ba (.inl rfl)).trans hBa
          have hBn3 : Boxed W3 bn 3 (.int .i64 n') := (hS3 bn (.inr rfl)).trans hBn
          have c5 := hBa3.cell
          have c6 := hBn3.cell
          have c7 := hBa3.frozen
          have c8 := hBn3.frozen
          have c9 : (W3.setCell ⟨ba, 0, none⟩ (.int .i64 ((x : Int) * x % 2147483579))).cell? ⟨bn, 0, none⟩ = some (.int .i64 n') := (hBn3.other (Ne.symm hne) _).cell
          have c10 : (W3.setCell ⟨ba, 0, none⟩ (.int .i64 ((x : Int) * x % 2147483579))).frozen? ⟨bn, 0, none⟩ = false := (hBn3.other (Ne.symm hne) _).frozen
          clear c1 c2 c3 c4 hb hy hR hY
          have hs := sq_small hx
          gi_wp2
          refine ⟨?rel, ?measure⟩
          case rel =>
            refine ⟨k + 1, x * x % 2147483579, n' / 2, f', ?_, ?_, ?_, ?_, lt_of_drop_cons HSQ'.out, hf', Nat.mod_lt _ (by omega), by omega, hL2⟩
            · have := (hBa3.set (.int .i64 ((x : Int) * x % 2147483579))).other (B' := bn) hne (.int .i64 ((n' : Int) / 2))
              simpa using this
            · have := (hBn3.other (B' := ba) (Ne.symm hne) (.int .i64 ((x : Int) * x % 2147483579))).set (.int .i64 ((n' : Int) / 2))
              simpa using this
            · exact hJ (k + 1) _ _ (some bn) (hJ (k + 1) _ _ (some ba) hJ3 (grownBy_setCell' W3 ba _) (fun r e => by cases e; exact .inl rfl)) (grownBy_setCell' _ bn _) (fun r e => by cases e; exact .inr rfl)
            · simp [World.setCell]; omega
          case measure =>
            have e1 := ((hBn3.other (B' := ba) (Ne.symm hne) (.int .i64 ((x : Int) * x % 2147483579))).set (.int .i64 ((n' : Int) / 2))).cell
            simp only [cellNat]
            rw [e1, hBn.cell]
            simp [intOf]; omega
        · gi_wp2
          refine bodyPost_ret (results_none rfl _ _ _) rfl ?_
          exact ⟨⟨_, rfl⟩, .inr ⟨k, by rw [List.length_map]; exact lt_of_drop_cons HSQ'.out, hJx3⟩⟩
      · have hv : ((sqList n a n).map fun p => (#[.int .i64 (p.1 : Int), .bool p.2] : Array Value))[k]? = some #[.int .i64 (x : Int), .bool false] := by
          have hpb : (n' % 2 == 1) = false := by simpa using hp
          have e : (sqList n a n)[k]? = some (x, false) := by
            have := congrArg (fun l => l[0]?) (hL.out.symm.trans hsq)
            simpa [hpb] using this
          rw [List.getElem?_map, e]; rfl
        have hL2 : Hid (sqList f' (x * x % 2147483579) (n' / 2) = (sqList n a n).drop (k + 1)) := by
          have := congrArg List.tail (hsq.symm.trans hL.out)
          rw [List.tail_cons, List.tail_drop] at this
          exact this
        obtain ⟨fn, tmps, assign, body, hy, hR⟩ := hY k _ wr hJk hKw hv
        have hb : bits .and .i64 (n' : Int) 1 = 0 := by rw [bits_one _ (by omega)]; omega
        have HSQ := hL.out.symm.trans hsq
        have HSQ' := Lib.hid HSQ
        clear hv hsq hL hp HSQ
        gi_wp2
        refine hR.mono ?_
        rintro e W3 (⟨rfl, hJ3, hS3, hz3⟩ | ⟨rfl, hJx3⟩)
        · have hBa3 : Boxed W3 ba 3 (.int .i64 x) := (hS3 ba (.inl rfl)).trans hBa
          have hBn3 : Boxed W3 bn 3 (.int .i64 n') := (hS3 bn (.inr rfl)).trans hBn
          have c5 := hBa3.cell
          have c6 := hBn3.cell
          have c7 := hBa3.frozen
          have c8 := hBn3.frozen
          have c9 : (W3.setCell ⟨ba, 0, none⟩ (.int .i64 ((x : Int) * x % 2147483579))).cell? ⟨bn, 0, none⟩ = some (.int .i64 n') := (hBn3.other (Ne.symm hne) _).cell
          have c10 : (W3.setCell ⟨ba, 0, none⟩ (.int .i64 ((x : Int) * x % 2147483579))).frozen? ⟨bn, 0, none⟩ = false := (hBn3.other (Ne.symm hne) _).frozen
          clear c1 c2 c3 c4 hb hy hR hY
          have hs := sq_small hx
          gi_wp2
          refine ⟨?rel, ?measure⟩
          case rel =>
            refine ⟨k + 1, x * x % 2147483579, n' / 2, f', ?_, ?_, ?_, ?_, lt_of_drop_cons HSQ'.out, hf', Nat.mod_lt _ (by omega), by omega, hL2⟩
            · have := (hBa3.set (.int .i64 ((x : Int) * x % 2147483579))).other (B' := bn) hne (.int .i64 ((n' : Int) / 2))
              simpa using this
            · have := (hBn3.other (B' := ba) (Ne.symm hne) (.int .i64 ((x : Int) * x % 2147483579))).set (.int .i64 ((n' : Int) / 2))
              simpa using this
            · exact hJ (k + 1) _ _ (some bn) (hJ (k + 1) _ _ (some ba) hJ3 (grownBy_setCell' W3 ba _) (fun r e => by cases e; exact .inl rfl)) (grownBy_setCell' _ bn _) (fun r e => by cases e; exact .inr rfl)
            · simp [World.setCell]; omega
          case measure =>
            have e1 := ((hBn3.other (B' := ba) (Ne.symm hne) (.int .i64 ((x : Int) * x % 2147483579))).set (.int .i64 ((n' : Int) / 2))).cell
            simp only [cellNat]
            rw [e1, hBn.cell]
            simp [intOf]; omega
        · gi_wp2
          refine bodyPost_ret (results_none rfl _ _ _) rfl ?_
          exact ⟨⟨_, rfl⟩, .inr ⟨k, by rw [List.length_map]; exact lt_of_drop_cons HSQ'.out, hJx3⟩⟩
    · obtain rfl : n' = 0 := by omega
      rw [sqList_zero] at hL
      have hk := le_of_drop_nil hL.out
      clear hL
      gi_wp2
      go_end0
      exact ⟨⟨_, rfl⟩, .inl (by rw [List.length_map, Nat.le_antisymm hk hkl]; exact hJk)⟩

/-! ### the exponent, and the iterator's maker -/
set_option maxHeartbeats 400000 in
theorem least_one (n : Int) (ad : Addr) (w : World) (hc : w.cell? ad = some (.int .i64 n)) :
    Calls Tryz.prog 141 #[.slice (some ad) 1 1] w fun e w' => e = .returned (.int .i64 (n % 1073741789)) ∧ w = w' := by
  have t1 := Int.tmod_lt_of_pos n (show (0 : Int) < 1073741789 by omega)
  have t2 : -1073741789 < n.tmod 1073741789 := Int.lt_tmod_of_pos n (by omega)
  have e1 : (n.tmod 1073741789 + 1073741789) % 1073741789 = n % 1073741789 := tmod_add_mod (by omega)
  have hc0 : w.cell? (ad.add 0) = some (.int .i64 n) := by simpa [Addr.add] using hc
  have H := Lib.hid e1
  clear e1
  go_enter Tryz.func141, Tryz.ntmps141
  go_wp2
  refine wp_loop_rounds 2 ?_
  rw [rounds_succ]
  go_wp2
  rw [rounds_succ]
  go_wp2
  go_ret
  exact ⟨ret_int H.out, rfl⟩

set_option maxHeartbeats 400000 in
theorem squares_any (a n : Int) (w : World) :
    Calls Tryz.prog 140 #[.int .i64 a, .int .i64 n] w fun e w' => e = .returned (.func (.func 157) #[] #[.pointer (some ⟨w.heap.size + 1, 0, none⟩), .pointer (some ⟨w.heap.size, 0, none⟩)]) ∧
      (w.alloc (.cells #[.int .i64 a] 3)).alloc (.cells #[.int .i64 n] 3) = w' := by
  go_enter Tryz.func140, Tryz.ntmps140
  go_wp2
  go_ret
  exact ⟨rfl, rfl⟩

set_option maxHeartbeats 400000 in
theorem pow_no (a n : Int) (hv : vld a = false) (w : World) :
    Calls Tryz.prog 105 #[.int .i64 a, .int .i64 n] w fun e w' => e = .returned (.tuple #[.int .i64 0, .int .i64 90]) ∧ Below w.heap.size w w' := by
  go_enter Tryz.func105, Tryz.ntmps105
  go_wp2_with (go_at_call 59; refine (valid_any _ _).mono ?_; rintro e w' ⟨rfl, rfl⟩)
  exact bodyPost_ret (v := .tuple #[.int .i64 0, .int .i64 90]) (by simp [results, Tryz.results105, go_sem]) rfl ⟨rfl, (Below.refl _ _).alloc (Nat.le_refl _) _⟩

set_option maxHeartbeats 1000000 in
theorem pow_nat (A : Nat) (n : Int) (M : Nat) (hv : vld (A : Int) = true) (hAlt : A < 2147483579) (hMlt : M < 2147483579) (hM : n % 1073741789 = (M : Int)) (w : World) :
    Calls Tryz.prog 105 #[.int .i64 (A : Int), .int .i64 n] w fun e w' => e = .returned (.tuple #[.int .i64 ((A ^ M % 2147483579 : Nat) : Int), .int .i64 0]) ∧ Below w.heap.size w w' := by
  refine (callsIn_wide (n := 3)).1 ?_
  refine callsIn_of_wp_marks Tryz.func105 rfl trivial ?_ rfl
  simp only [Tryz.ntmps105, List.size_toArray, List.length_cons, List.length_nil, Nat.reduceAdd, Nat.reduceSub, Array.replicate_succ, Array.replicate_zero, List.push_toArray, List.append_toArray, List.nil_append, List.cons_append]
  gi_wp2_with (first | (refine ⟨trivial, ?_⟩; gi_at_call 59; refine (callsIn_wide.2 (valid_any _ _)).mono ?_; rintro e w' ⟨rfl, rfl⟩) | (refine ⟨trivial, ?_⟩; gi_at_call 141; refine (callsIn_wide.2 (least_one n _ _ ?hc)).mono ?_; rotate_left; rintro e w' ⟨rfl, rfl⟩) | (refine ⟨trivial, ?_⟩; gi_at_call 140; refine (callsIn_wide.2 (squares_any _ _ _)).mono ?_; rintro e w' ⟨rfl, rfl⟩))
  case hc => simp
  clear hM
  obtain ⟨W0, hW0⟩ : ∃ W0 : World, (((w.alloc (Obj.cells #[Value.int IntKind.i64 1] 3)).alloc (Obj.cells #[Value.int IntKind.i64 n] 3)).alloc (Obj.cells #[Value.int IntKind.i64 (A : Int)] 3)).alloc
        (Obj.cells #[Value.int IntKind.i64 (M : Int)] 3) = W0 := ⟨_, rfl⟩
  have hz : W0.heap.size = w.heap.size + 4 := by rw [← hW0]; simp
  have hbC : Boxed W0 w.heap.size 3 (.int .i64 1) := by rw [← hW0]; exact (((Boxed.new w _ _).alloc _).alloc _).alloc _
  have hbA : Boxed W0 (w.heap.size + 2) 3 (.int .i64 A) := by
    rw [← hW0]
    have := (Boxed.new ((w.alloc (Obj.cells #[Value.int IntKind.i64 1] 3)).alloc (Obj.cells #[Value.int IntKind.i64 n] 3)) 3 (.int .i64 A)).alloc (Obj.cells #[Value.int IntKind.i64 (M : Int)] 3)
    simpa using this
  have hbM : Boxed W0 (w.heap.size + 3) 3 (.int .i64 M) := by
    rw [← hW0]
    have := Boxed.new (((w.alloc (Obj.cells #[Value.int IntKind.i64 1] 3)).alloc (Obj.cells #[Value.int IntKind.i64 n] 3)).alloc (Obj.cells #[Value.int IntKind.i64 (A : Int)] 3)) 3 (.int .i64 M)
    simpa using this
  have hbW : Below w.heap.size w W0 := by
    rw [← hW0]
    exact ((((Below.refl _ w).alloc (Nat.le_refl _) _).alloc (by simp) _).alloc (by simp; omega) _).alloc (by simp; omega) _
  rw [hW0]
  clear hW0
  refine wpIn_rangeL (w := W0) rfl (by omega) (gf := 157) (lb := #[.pointer (some ⟨w.heap.size + 3, 0, none⟩), .pointer (some ⟨w.heap.size + 2, 0, none⟩)]) rfl trivial (enters_of Tryz.func157 (by kernel_rfl) rfl)
    (squares_seq A M hAlt hMlt (w.heap.size + 2) (w.heap.size + 3) _ (by omega) 2 (by omega))
    (fun W hW => ⟨(hW.block _ (by omega)).trans hbA, (hW.block _ (by omega)).trans hbM⟩) (by rw [hz]; omega) (by rw [hz]; omega) (by rw [hz]; omega)
    (fun v hv => by obtain ⟨p, _, rfl⟩ := List.mem_map.1 hv; rfl)
    (fun k W => Boxed W w.heap.size 3 (.int .i64 (sqProd ((sqList M A M).take k) : Nat)) ∧ Below w.heap.size w W) (fun _ _ _ => False)
    (fun k W W' row hs hg hr => ⟨hs.1.kept hg (fun e => by have := hr _ e.symm; omega), hs.2.grown hg hs.2.size (fun r e => by have := hr _ e; omega)⟩)
    (fun _ _ _ _ _ hs _ _ => hs.elim) ⟨hbC, hbW⟩
    (fun k a' _ => ∃ p, (sqList M A M)[k]? = some p ∧ a' = { tmps := #[Value.int IntKind.i64 A, Value.int IntKind.i64 n, undef, undef, Value.pointer (some { block := w.heap.size, off := 0 }), Value.int IntKind.i64 0, .int .i64 (p.1 : Int), .bool p.2,
            Value.int IntKind.i64 A, Value.bool true, Value.bool false, Value.int IntKind.i64 A, Value.int IntKind.i64 n,
            Value.slice (some { block := w.heap.size + 1, off := 0 }) 1 1, Value.int IntKind.i64 M,
            Value.func (Fn.func 157) #[] #[Value.pointer (some { block := w.heap.size + 1 + 1 + 1, off := 0 }), Value.pointer (some { block := w.heap.size + 1 + 1, off := 0 })],
            .int .i64 (p.1 : Int), .bool p.2, undef, undef, undef, undef, undef, undef], defers := [] })
    (fun _ _ _ _ _ _ hs _ _ => hs) ?assign ?body ?done ?stop
  case assign =>
    intro l k v W K hI hv hsz hK
    rw [List.getElem?_map] at hv
    obtain ⟨p, hp, rfl⟩ := Option.map_eq_some_iff.1 hv
    clear hv
    gi_wp2
    exact hK _ _ (Kept.refl _ _) (SameOn.refl _ _) hI ⟨p, hp, rfl⟩
  case body =>
    rintro l k v a' W ⟨hC, hB⟩ ⟨⟨sq, bit⟩, hp, rfl⟩ hv hsz
    have hlt := sqList_lt M A M hAlt _ (List.mem_of_getElem? hp)
    have hclt := sqProd_lt ((sqList M A M).take k)
    have hsn : sqProd ((sqList M A M).take (k + 1)) = if bit then sqProd ((sqList M A M).take k) * sq % 2147483579 else sqProd ((sqList M A M).take k) := by
      rw [List.take_add_one, hp, Option.toList_some, sqProd_snoc]
    dsimp only at hlt
    have H := Lib.hid hsn
    have c1 := hC.cell
    have c2 := hC.frozen
    clear hsn hp hv
    generalize sqProd ((sqList M A M).take k) = c at *
    have m2 : c * sq ≤ 2147483579 * 2147483579 := Nat.mul_le_mul (by omega) (by omega)
    have m4 : (c : Int) * sq = ((c * sq : Nat) : Int) := by simp
    have m5 : 0 ≤ (c : Int) * sq ∧ (c : Int) * sq ≤ 2147483579 * 2147483579 := by omega
    clear m4
    cases bit with
    | true =>
      gi_wp2
      refine ⟨Kept.setCell _ _ (by simp only []; omega) (by simp only []; omega), ?_, ?_, ?_⟩
      · intro r hr; exact Below.heap_setCell _ _ _ r (by rcases hr with h | h <;> (rw [h]; simp))
      · have := hC.set (.int .i64 ((c : Int) * sq % 2147483579))
        rw [H.out]; simpa using this
      · exact hB.setCell (p := ⟨w.heap.size, 0, none⟩) (Nat.le_refl _) _
    | false =>
      gi_wp2
      exact ⟨Kept.refl _ _, SameOn.refl _ _, by rw [H.out]; exact hC, hB⟩
  case done =>
    rintro W ⟨hC, hB⟩ hsz hD
    rw [List.length_map, List.take_length, sqProd_all] at hC
    have c1 := hC.cell
    have c2 := hC.frozen
    obtain ⟨R, hR⟩ : ∃ R, A ^ M % 2147483579 = R := ⟨_, rfl⟩
    rw [hR] at hC c1
    have HR := Lib.hid hR
    clear hR
    gi_wp2
    have hD' : (W.setCell ⟨w.heap.size, 0, none⟩ (.int .i64 (R : Int))).heap[W0.heap.size]? = some (.deferred (some [])) := (Below.heap_setCell _ _ _ _ (by simp; omega)).trans hD
    have hC' := hC.set (.int .i64 (R : Int))
    have hB' : Below w.heap.size w (W.setCell ⟨w.heap.size, 0, none⟩ (.int .i64 (R : Int))) := hB.setCell (p := ⟨w.heap.size, 0, none⟩) (Nat.le_refl _) _
    refine ⟨by simp, .inl ⟨_, _, rfl, run_takeDeferred hD', ?_⟩⟩
    have hC2 := hC'.kept (grownBy_putObj' _ W0.heap.size (.deferred none)) (by simp; omega)
    have c5 := hC2.cell
    refine ⟨.tuple #[.int .i64 R, .int .i64 0], ?_, by rw [HR.out], ?_⟩
    · simp [results, Tryz.f105, go_sem, c5]
    · exact hB'.grown (grownBy_putObj' _ W0.heap.size (.deferred none)) hB'.size (fun r e => by cases e; omega)
  case stop =>
    rintro c k W _ h _ _
    exact h.elim

theorem pow_any (a n : Int) (w : World) :
    Calls Tryz.prog 105 #[.int .i64 a, .int .i64 n] w fun e w' => e = .returned (.tuple #[.int .i64 (powC a n), .int .i64 (powE a)]) ∧ Below w.heap.size w w' := by
  by_cases hv : vld a = true
  · have l1 := vld_lo hv
    have l2 := vld_hi hv
    obtain ⟨A, rfl⟩ : ∃ A : Nat, a = (A : Int) := ⟨a.toNat, by omega⟩
    obtain ⟨M, hM⟩ : ∃ M : Nat, n % 1073741789 = (M : Int) := ⟨(n % 1073741789).toNat, by omega⟩
    have e1 : powC (A : Int) n = ((A ^ M % 2147483579 : Nat) : Int) := by
      rw [powC, if_pos hv, pwr, hM]; rfl
    have e2 : powE (A : Int) = 0 := by simp [powE, hv]
    rw [e1, e2]
    exact pow_nat A n M hv (by omega) (by omega) hM w
  · have hv' : vld a = false := by simpa using hv
    have e1 : powC a n = 0 := by simp [powC, hv']
    have e2 : powE a = 90 := by simp [powE, hv']
    rw [e1, e2]
    exact pow_no a n hv' w
end Go.Proofs.YthckledagggoiaaGreatDoor

namespace Go.Proofs.YthckledagggoiaaGreatDoor
open Go.ChangeShapes Go.WideShapes Go.RowKit Go.WideElems Fk Sha
/-! What the listed tables give. -/
theorem ints_of {enc : TypeId × Value → Unit} {P : Program} {W : World} {base : Nat} {spare : Nat → Bool} {held : Bool} {fuel n : Nat} {t e : TypeId} {k : IntKind} {cs : List Value} {D : List (DataW Unit)} {p : List MemPlace} (ht : P.underlying t = some (.array n e)) (he : P.underlying e = some (.int k)) (hc : P.cellsOf e = 1)
    (h : DataW.trod enc P W base spare held fuel t cs = some (.agg D, p)) {i : Nat} (hi : i < n) : ∃ x : Int, cs[i]? = some (.int k x) ∧ D[i]? = some (.lit (.int k x)) := by
  obtain ⟨xs, m, _, hx, _, hl, hel⟩ := DataW.trod_array ht h
  have h1 := hel i hi
  rw [hc, Nat.mul_one] at h1
  obtain ⟨y, hy⟩ : ∃ y, xs[i]? = some y := ⟨_, List.getElem?_eq_getElem (by omega)⟩
  obtain ⟨x, e1, e2, _⟩ := DataW.trod_int he (h1.trans hy)
  refine ⟨x, ?_, ?_⟩
  · have := congrArg (fun l : List Value => l[0]?) e1
    simp only [List.getElem?_take, List.getElem?_drop] at this
    simpa using this
  · simp only [Prod.mk.injEq, DataW.agg.injEq] at hx
    rw [hx.1, List.getElem?_map, hy, Option.map_some, e2]
theorem gStart : Tryz.prog.globalNamed "franking/digest.start" = some 0 := by kernel_rfl
theorem gNumbers : Tryz.prog.globalNamed "franking/digest.numbers" = some 1 := by kernel_rfl
theorem tStart : (Tryz.prog.globals[0]?).map (·.type) = some 205 := by kernel_rfl
theorem tNumbers : (Tryz.prog.globals[1]?).map (·.type) = some 230 := by kernel_rfl
theorem dStart : (Rows.laid_franking_digest_start : DataW Unit) = .agg (startS.list.map fun x => .lit (.int .u32 (x.toNat : Int))) := by kernel_rfl
theorem dNumbers : (Rows.laid_franking_digest_numbers : DataW Unit) = .agg (numbersL.map fun x => .lit (.int .u32 (x.toNat : Int))) := by kernel_rfl
theorem tab_laid {W : World} (h : laidMetH Tryz.prog [("franking/digest.start", Rows.laid_franking_digest_start), ("franking/digest.numbers", Rows.laid_franking_digest_numbers)] W) : Tab W ∧ (1 < W.heap.size ∧ 0 < W.heap.size) := by
  rw [MakeChecks.laidMetH_plain _ _ _ (by kernel_rfl)] at h
  obtain ⟨ps, ⟨g0, t0, cs0, f0, p0, q0, hg0, ht0, hv0, hd0, ⟨g1, t1, cs1, f1, p1, q1, hg1, ht1, hv1, hd1, _, _⟩, _⟩, _, _⟩ := h
  obtain rfl := Option.some.inj (gStart.symm.trans hg0)
  obtain rfl := Option.some.inj (gNumbers.symm.trans hg1)
  obtain rfl := Option.some.inj (tStart.symm.trans ht0)
  obtain rfl := Option.some.inj (tNumbers.symm.trans ht1)
  rw [dStart] at hd0
  rw [dNumbers] at hd1
  have k1 : ∀ i, i < 64 → W.cell? ⟨1, i, none⟩ = some (u (numbersL.getD i 0)) := by
    intro i hi
    obtain ⟨x, e1, e2⟩ := ints_of Tryz.underlying230 Tryz.underlying204 (by kernel_rfl) hd1 hi
    have hl : i < numbersL.length := hi
    rw [List.getElem?_map, List.getElem?_eq_getElem hl] at e2
    have e3 : un (numbersL.getD i 0) = x := by
      rw [List.getD_eq_getElem?_getD, List.getElem?_eq_getElem hl]
      simp only [Option.map_some, Option.some.injEq, DataW.lit.injEq, Lit.int.injEq, true_and] at e2
      exact e2
    have := World.var?_cell hg1 hv1 i
    rw [this]
    unfold u
    rw [e3]
    simpa using e1
  have k2 : ∀ i, i < 8 → W.cell? ⟨0, i, none⟩ = some (u (startS.list.getD i 0)) := by
    intro i hi
    obtain ⟨x, e1, e2⟩ := ints_of Tryz.underlying205 Tryz.underlying204 (by kernel_rfl) hd0 hi
    have hl : i < startS.list.length := hi
    rw [List.getElem?_map, List.getElem?_eq_getElem hl] at e2
    have e3 : un (startS.list.getD i 0) = x := by
      rw [List.getD_eq_getElem?_getD, List.getElem?_eq_getElem hl]
      simp only [Option.map_some, Option.some.injEq, DataW.lit.injEq, Lit.int.injEq, true_and] at e2
      exact e2
    have := World.var?_cell hg0 hv0 i
    rw [this]
    unfold u
    rw [e3]
    simpa using e1
  exact ⟨⟨k1, k2⟩, World.block_lt_of_cell? W _ (k1 0 (by omega)), World.block_lt_of_cell? W _ (k2 0 (by omega))⟩
end Go.Proofs.YthckledagggoiaaGreatDoor

namespace Go.Proofs.YthckledagggoiaaGreatDoor
open Go.RowKit Go.WideShapes Go.ChangeShapes Go.Deep Fk
/-! Arguments that are slices, opened to lists; and closed again. -/
section
variable {H : Type} {enc : TypeId × Value → H} {P : Program} {w : World} {base : Nat} {spare : Nat → Bool} {held : Bool}
theorem cell_addr {w : World} {a : Addr} {v : Value} (h : w.cell? a = some v) : a.spot = none ∧ a.block < w.heap.size := by
  unfold World.cell? at h
  split at h
  · rename_i c t r hk
    refine ⟨?_, (Array.getElem?_eq_some_iff.1 hk).1⟩
    cases hs : a.spot with
    | none => rfl
    | some x => rw [hs] at h; simp at h
  · cases h
theorem addr_add (b off k : Nat) : (Addr.add ⟨b, off, none⟩ k) = ⟨b, off + k, none⟩ := by
  unfold Addr.add; split
  · subst k; rfl
  · rfl
theorem sl_of_cells {α : Type} [Inhabited α] {m : Nat} {en : α → List Value} {Q : α → Prop} {w : World} {a : Addr} {len cap : Nat} (hm : 0 < m) (hl : len ≤ 9223372036854775807)
    (h : ∀ i, i < len → ∃ x : α, Q x ∧ ∀ j, j < m → w.cell? (a.add (i * m + j)) = some ((en x).getD j undef)) :
    ∃ l : List α, SlG m en w w.heap.size (.slice (some a) len cap) l ∧ ∀ i, i < l.length → Q (l.getD i default) := by
  have hc : ∃ f : Nat → α, ∀ i, i < len → Q (f i) ∧ ∀ j, j < m → w.cell? (a.add (i * m + j)) = some ((en (f i)).getD j undef) := by
    refine ⟨fun i => if hi : i < len then Classical.choose (h i hi) else default, fun i hi => ?_⟩
    simp only [dif_pos hi]
    exact Classical.choose_spec (h i hi)
  obtain ⟨f, hf⟩ := hc
  have hlen : ((List.range len).map f).length = len := by simp
  have hget : ∀ i, i < len → ((List.range len).map f).getD i default = f i := fun i hi => by
    rw [List.getD_eq_getElem?_getD, List.getElem?_map, List.getElem?_range hi]; rfl
  refine ⟨(List.range len).map f, ⟨by omega, some a, cap, by rw [hlen], fun hp => ?_⟩, fun i hi => by rw [hget i (by omega)]; exact (hf i (by omega)).1⟩
  have h0 := (hf 0 (by omega)).2 0 hm
  rw [show 0 * m + 0 = 0 by omega] at h0
  obtain ⟨b, off, sp⟩ := a
  have h0' : w.cell? ⟨b, off, sp⟩ = some ((en (f 0)).getD 0 undef) := h0
  obtain ⟨hs, hb⟩ := cell_addr h0'
  simp only at hs hb
  subst hs
  refine ⟨b, off, rfl, hb, fun i hi j hj => ?_⟩
  rw [hget i (by omega)]
  have := (hf i (by omega)).2 j hj
  rw [addr_add] at this
  rwa [Nat.add_assoc]
theorem trod_keep {t : TypeId} (hl : laidOutB P = true) (hr : P.readableRec t = true) (hrow : t < P.types.size) {W W' : World} {v : Value} {d : DataW H} {ps : List MemPlace} {sp : Nat → Bool}
    (h : DataW.Trod enc P W 0 (fun _ => true) true t v d ps) (hb : Below W.heap.size W W') (hlt : ∀ x ∈ ps, x.block < W.heap.size) (hsp : ∀ x ∈ ps, sp x.block = true) : DataW.Trod enc P W' 0 sp true t v d ps :=
  WideElems.Trod_stays hl hr hrow h (fun x hx => hb.same (hlt x hx)) hsp
end
theorem cells_slice (a : Option Addr) (n c : Nat) : (Value.slice a n c).cells.toList = [.slice a n c] := by simp [Value.cells]
section
variable {H : Type} {enc : TypeId × Value → H} {w : World} {base : Nat} {r : Reach}
end
end Go.Proofs.YthckledagggoiaaGreatDoor

namespace Go.Proofs.YthckledagggoiaaGreatDoor
open Go.RowKit Go.WideShapes Go.ChangeShapes Go.ChangeMaps Go.Deep Fk Sha
/-! Bytes and strings as arguments. -/
section
variable {H : Type} {enc : TypeId × Value → H} {w : World} {base : Nat} {r : Reach}
end
end Go.Proofs.YthckledagggoiaaGreatDoor

namespace Go.Proofs.YthckledagggoiaaGreatDoor
open Go.RowKit Go.WideShapes Go.ChangeShapes
/-! The row's last step where the call left a world of which 'Below' is known. -/
section
variable {H : Type} {enc : TypeId × Value → H} {P : Program}
theorem post_of_below {f : Func} {s : ChangeSpec} {apart fresh handsOn again : Bool} {W W' : World} {args : Array Value} {v : Value} {ds gs : List (DataW H)} {before pa pv : List MemPlace}
    (hW : DataW.Whole enc P f.params.toList s.vars apart W args.toList ds gs before)
    (hres : ∀ (b : Nat) (sp : Nat → Bool) (hd : Bool), DataW.TrodAll enc P W' b sp hd f.resultTypes.toList (v.resultList f.resultTypes.size) (s.fn H (ds ++ gs)).results [])
    (hargs : ∀ sp : Nat → Bool, (∀ p ∈ before, sp p.block = true) → DataW.TrodAll enc P W' 0 sp true f.params.toList args.toList (s.fn H (ds ++ gs)).args pa)
    (hvars : ∀ sp : Nat → Bool, (∀ p ∈ before, sp p.block = true) → DataW.TrodVars enc P W' sp s.vars (s.fn H (ds ++ gs)).vars pv)
    (hps : before = pa ++ pv) (hb : Below W.heap.size W W')
    (hok : ∀ (j : Nat) (t : TypeId) (r : Value), f.resultTypes[j]? = some t → (v.resultList f.resultTypes.size)[j]? = some r → Value.okWide P W' .any 0 t r) :
    s.post enc P f apart fresh handsOn again W args v W' := by
  have hlt : ∀ p ∈ before, p.block < W.heap.size := fun p hp => hW.lt p hp
  have hold : ∀ p ∈ before, (fun b => decide (b < W.heap.size)) p.block = true := fun p hp => by simpa using hlt p hp
  refine ⟨ds, gs, before, [], pa, pv, hW, hres _ _ _, hargs _ hold, hvars _ hold, World.keptBut_mono (fun p hp => ⟨hp, ?_⟩) (hb.frame (· ∈ before)), fun _ => ?_⟩
  · rw [hps, List.mem_append] at hp
    exact Or.inr hp
  · obtain ⟨_, _, _, _, _, hz, hn⟩ := hW
    refine ⟨hok, _, _, ([] ++ pa) ++ pv, ⟨[] ++ pa, pv, trodAll_append (hargs _ (fun _ _ => rfl)) (hres _ _ _), hvars _ (fun _ _ => rfl), rfl, ?_, ?_⟩, ?_⟩
    · intro b off hp
      have hin : MemPlace.cell b off ∈ before := by rw [hps]; simpa using hp
      rw [hb.frozen (hlt _ hin)]
      exact hz b off hin
    · intro ha
      have := hn ha
      rw [hps] at this
      simpa using this
    · intro p hp _
      rw [hps]
      simpa using hp
end
end Go.Proofs.YthckledagggoiaaGreatDoor

/-! wp_region_ord inside a round of a range over a function: what is walked outside holds inside, where no operation defers and nothing is outgrown. -/
namespace Fk
open Go
section
variable {P : Program} {ops : Array Oper} {Q : Exit → Act → World → Prop} {md : Region.Mode} {S : World → Prop}
theorem uponIn_of (lb m : Nat) {o : Oper} {a : Act} {K : Act → World → Prop} {r : Result Next} (h : o.upon P a K Q r) : o.uponIn (Fence.wide.inRound lb) m P a K Q r := by
  cases r with
  | ok nx w' =>
    cases nx with
    | value v => exact h
    | skip => exact h
    | defer d => exact h
    | enter f args => exact ⟨(fun e => by cases e), callsIn_wide.2 h⟩
    | row row args =>
      refine ⟨(fun e => by cases e), fun c cs _ => ?_⟩
      obtain ⟨v, w', r, s⟩ := h c cs
      exact ⟨v, w', r, stepsIn_wide.2 s⟩
    | _ => exact False.elim h
  | halt x w' =>
    cases x with
    | panic v => exact h
    | _ => exact False.elim h
def noDefer (ops : Array Oper) : Bool := ops.toList.all fun o => match o.op with | .defer _ => false | _ => true
theorem noDefer_at (h : noDefer ops = true) {i : Nat} {o : Oper} (ho : ops[i]? = some o) : ∀ c, o.op ≠ .defer c := by
  intro c e
  have := List.all_eq_true.1 h o (by rw [← Array.getElem?_toList] at ho; exact List.mem_of_getElem? ho)
  rw [e] at this
  cases this
theorem wpOpIn_of (lb m : Nat) (hd : noDefer ops = true) (hL : ¬ LetsOut Q) {i : Nat} {K : Act → World → Prop} {a : Act} {w : World} (h : wpOp P ops Q i K a w) : wpOpIn (Fence.wide.inRound lb) m P ops Q i K a w := by
  unfold wpOp at h
  unfold wpOpIn
  cases ho : ops[i]? with
  | none => rw [ho] at h; exact h
  | some o =>
    rw [ho] at h
    simp only at h ⊢
    split
    · rename_i hw
      rw [if_pos hw] at h
      rcases h with h | h
      · refine ⟨fun _ _ => trivial, ?_⟩
        rw [Oper.semAt_eq _ _ _ (noDefer_at hd ho)]
        exact uponIn_of lb m h
      · exact absurd h.2 hL
    · rename_i hw
      rw [if_neg hw] at h
      exact ⟨fun _ _ => trivial, h⟩
theorem wpAnyIn_of (lb m : Nat) (hd : noDefer ops = true) (hL : ¬ LetsOut Q) : ∀ (fuel : Nat) (listed : Array Bool) (a : Act) (w : World), wpAny P md ops Q fuel listed a w → wpAnyIn (Fence.wide.inRound lb) m P md ops Q fuel listed a w
  | 0, _, _, _, h => h
  | fuel + 1, _, _, _, h => ⟨h.1, fun i hi => wpOpIn_of lb m hd hL (wpOp_mono (fun _ _ h' => wpAnyIn_of lb m hd hL fuel _ _ _ h') (h.2 i hi))⟩
end
end Fk
