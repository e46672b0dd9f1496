import Init
/-! Plain arithmetic: Gauss's lemma for odd moduli, reciprocity, powers modulo a prime. -/
namespace Fk

/-! ### permutations -/
theorem perm_of_subset : ∀ (l m : List Nat), l.Nodup → (∀ a ∈ l, a ∈ m) → m.length ≤ l.length → l.Perm m
  | [], m, _, _, h => by
    have : m = [] := List.eq_nil_of_length_eq_zero (by simpa using h)
    subst this; exact List.Perm.nil
  | a :: t, m, hn, hs, h => by
    have ha : a ∈ m := hs a (by simp)
    have hp := List.perm_cons_erase ha
    rw [List.nodup_cons] at hn
    have ht : t.Perm (m.erase a) := by
      refine perm_of_subset t (m.erase a) hn.2 (fun b hb => ?_) ?_
      · have hne : b ≠ a := fun e => hn.1 (e ▸ hb)
        exact (List.mem_erase_of_ne hne).2 (hs b (by simp [hb]))
      · have := List.length_erase_of_mem ha
        simp at h; omega
    exact (ht.cons a).trans hp.symm

theorem perm_range_map (h : Nat) (f : Nat → Nat) (hf : ∀ k, k < h → f k < h) (hi : ∀ i j, i < h → j < h → f i = f j → i = j) :
    ((List.range h).map f).Perm (List.range h) := by
  refine perm_of_subset _ _ ?_ ?_ (by simp)
  · rw [List.Nodup, List.pairwise_map]
    have hn : (List.range h).Nodup := List.nodup_range
    rw [List.Nodup] at hn
    refine List.Pairwise.imp_of_mem ?_ hn
    intro a b ha hb hne he
    exact hne (hi a b (by simpa using ha) (by simpa using hb) he)
  · intro a ha
    obtain ⟨k, hk, rfl⟩ := List.mem_map.1 ha
    simpa using hf k (by simpa using hk)

/-! ### the count of Gauss -/
def mu (a n : Nat) : Nat := (List.range (n / 2)).countP fun k => decide (n / 2 < a * (k + 1) % n)
def jac (a n : Nat) : Bool := mu a n % 2 == 0
def sg (a n k : Nat) : Nat := if n / 2 < a * (k + 1) % n then n - a * (k + 1) % n - 1 else a * (k + 1) % n - 1

theorem res_ne {a n k : Nat} (hc : Nat.Coprime a n) (hk : k + 1 < n) : a * (k + 1) % n ≠ 0 := by
  intro h
  have hd : n ∣ a * (k + 1) := Nat.dvd_of_mod_eq_zero h
  have := Nat.Coprime.dvd_of_dvd_mul_left hc.symm hd
  have := Nat.le_of_dvd (by omega) this
  omega

theorem sg_lt {a n k : Nat} (ho : n % 2 = 1) (hc : Nat.Coprime a n) (hk : k < n / 2) : sg a n k < n / 2 := by
  have h0 := res_ne hc (show k + 1 < n by omega)
  have h1 := Nat.mod_lt (a * (k + 1)) (show 0 < n by omega)
  unfold sg
  split <;> omega

theorem sg_inj {a n : Nat} (ho : n % 2 = 1) (hc : Nat.Coprime a n) (i j : Nat) (hi : i < n / 2) (hj : j < n / 2) (h : sg a n i = sg a n j) : i = j := by
  have hi0 := res_ne hc (show i + 1 < n by omega)
  have hj0 := res_ne hc (show j + 1 < n by omega)
  have hi1 := Nat.mod_lt (a * (i + 1)) (show 0 < n by omega)
  have hj1 := Nat.mod_lt (a * (j + 1)) (show 0 < n by omega)
  have key : a * (i + 1) % n = a * (j + 1) % n ∨ a * (i + 1) % n + a * (j + 1) % n = n := by
    unfold sg at h
    split at h <;> split at h <;> omega
  rcases key with he | he
  · -- differences
    have wl : ∀ p q : Nat, p ≤ q → q < n / 2 → a * (p + 1) % n = a * (q + 1) % n → p = q := by
      intro p q hpq hq he
      have hd : n ∣ a * (q - p) := by
        have h2 : (a * (q + 1) - a * (p + 1)) % n = 0 := Nat.sub_mod_eq_zero_of_mod_eq he.symm
        have h3 : a * (q + 1) - a * (p + 1) = a * (q - p) := by rw [← Nat.mul_sub]; congr 1; omega
        rw [h3] at h2; exact Nat.dvd_of_mod_eq_zero h2
      have := Nat.Coprime.dvd_of_dvd_mul_left hc.symm hd
      rcases Nat.eq_zero_or_pos (q - p) with h0 | h0
      · omega
      · have := Nat.le_of_dvd h0 this; omega
    rcases Nat.le_total i j with hij | hij
    · exact wl i j hij hj he
    · exact (wl j i hij hi he.symm).symm
  · exfalso
    have h2 : (a * (i + 1) + a * (j + 1)) % n = 0 := by rw [Nat.add_mod, he, Nat.mod_self]
    have hd : n ∣ a * (i + j + 2) := by
      have e : a * (i + 1) + a * (j + 1) = a * (i + j + 2) := by rw [← Nat.mul_add]; congr 1; omega
      rw [e] at h2; exact Nat.dvd_of_mod_eq_zero h2
    have := Nat.Coprime.dvd_of_dvd_mul_left hc.symm hd
    have := Nat.le_of_dvd (by omega) this
    omega

theorem sg_perm {a n : Nat} (ho : n % 2 = 1) (hc : Nat.Coprime a n) : ((List.range (n / 2)).map (sg a n)).Perm (List.range (n / 2)) :=
  perm_range_map _ _ (fun _ hk => sg_lt ho hc hk) (fun i j hi hj h => sg_inj ho hc i j hi hj h)

theorem countP_xor (p q : Nat → Bool) : ∀ l : List Nat, (l.countP fun k => p k ^^ q k) % 2 = (l.countP p + l.countP q) % 2
  | [] => rfl
  | a :: t => by
    have ih := countP_xor p q t
    rw [List.countP_cons, List.countP_cons, List.countP_cons]
    cases p a <;> cases q a <;> simp <;> omega

theorem countP_congr' (p q : Nat → Bool) : ∀ l : List Nat, (∀ k ∈ l, p k = q k) → l.countP p = l.countP q
  | [], _ => rfl
  | a :: t, h => by
    rw [List.countP_cons, List.countP_cons, countP_congr' p q t (fun k hk => h k (by simp [hk])), h a (by simp)]

theorem neg_mul {a b n k : Nat} (ho : n % 2 = 1) (ha : Nat.Coprime a n) (hb : Nat.Coprime b n) (hk : k < n / 2) :
    decide (n / 2 < (a * b) * (k + 1) % n) = (decide (n / 2 < b * (k + 1) % n) ^^ decide (n / 2 < a * (sg b n k + 1) % n)) := by
  have h0 := res_ne hb (show k + 1 < n by omega)
  have h1 := Nat.mod_lt (b * (k + 1)) (show 0 < n by omega)
  have hab : Nat.Coprime (a * b) n := Nat.Coprime.mul_left ha hb
  have hr0 := res_ne hab (show k + 1 < n by omega)
  have hr1 := Nat.mod_lt (a * b * (k + 1)) (show 0 < n by omega)
  have e1 : a * b * (k + 1) % n = a * (b * (k + 1) % n) % n := by
    rw [Nat.mul_assoc, Nat.mul_mod, Nat.mul_mod a (b * (k + 1) % n), Nat.mod_mod]
  by_cases hs : n / 2 < b * (k + 1) % n
  · have es : sg b n k + 1 = n - b * (k + 1) % n := by unfold sg; rw [if_pos hs]; omega
    rw [es]
    generalize b * (k + 1) % n = r at *
    have e2 : (a * (n - r) + a * r) % n = 0 := by
      rw [← Nat.mul_add, Nat.sub_add_cancel (by omega)]; exact Nat.mul_mod_left a n
    rw [Nat.add_mod, ← e1] at e2
    have h3 := Nat.mod_lt (a * (n - r)) (show 0 < n by omega)
    generalize a * (n - r) % n = u at *
    generalize a * b * (k + 1) % n = v at *
    have e3 : u + v = n := by
      rcases Nat.lt_or_ge (u + v) n with hl | hl
      · rw [Nat.mod_eq_of_lt hl] at e2; omega
      · have : (u + v) % n = u + v - n := by rw [Nat.mod_eq_sub_mod hl, Nat.mod_eq_of_lt (by omega)]
        omega
    simp only [hs, decide_true, Bool.true_xor]
    by_cases hu : n / 2 < u
    · have : ¬ n / 2 < v := by omega
      simp [hu, this]
    · have : n / 2 < v := by omega
      simp [hu, this]
  · have es : sg b n k + 1 = b * (k + 1) % n := by unfold sg; rw [if_neg hs]; omega
    rw [es, e1]
    simp [hs]

theorem mu_mul {a b n : Nat} (ho : n % 2 = 1) (ha : Nat.Coprime a n) (hb : Nat.Coprime b n) : mu (a * b) n % 2 = (mu a n + mu b n) % 2 := by
  unfold mu
  rw [countP_congr' _ (fun k => decide (n / 2 < b * (k + 1) % n) ^^ decide (n / 2 < a * (sg b n k + 1) % n)) _ (fun k hk => neg_mul ho ha hb (by simpa using hk)), countP_xor]
  have := List.Perm.countP_eq (fun k => decide (n / 2 < a * (k + 1) % n)) (sg_perm ho hb)
  rw [List.countP_map] at this
  have e : (List.range (n / 2)).countP (fun k => decide (n / 2 < a * (sg b n k + 1) % n)) = (List.range (n / 2)).countP (fun k => decide (n / 2 < a * (k + 1) % n)) := this
  rw [e]; omega

theorem jac_mul {a b n : Nat} (ho : n % 2 = 1) (ha : Nat.Coprime a n) (hb : Nat.Coprime b n) : jac (a * b) n = (jac a n == jac b n) := by
  have h := mu_mul ho ha hb
  unfold jac
  rw [h]
  rcases Nat.mod_two_eq_zero_or_one (mu a n) with h1 | h1 <;> rcases Nat.mod_two_eq_zero_or_one (mu b n) with h2 | h2 <;>
    simp [h1, h2, Nat.add_mod]

theorem jac_mod (a n : Nat) : jac (a % n) n = jac a n := by
  have e : ∀ k, (a % n) * (k + 1) % n = a * (k + 1) % n := fun k => by rw [Nat.mul_mod, Nat.mod_mod, ← Nat.mul_mod]
  unfold jac mu
  simp only [e]

theorem jac_one {n : Nat} (_ : n % 2 = 1) : jac 1 n = true := by
  have e : mu 1 n = 0 := by
    unfold mu
    rw [List.countP_eq_zero]
    intro k hk
    have hk' : k < n / 2 := by simpa using hk
    have : 1 * (k + 1) % n = k + 1 := by rw [Nat.one_mul]; exact Nat.mod_eq_of_lt (by omega)
    simp only [decide_eq_true_eq]; rw [this]; omega
  simp [jac, e]

theorem count_gt (h c : Nat) : (List.range h).countP (fun k => decide (c ≤ k)) = h - c := by
  induction h with
  | zero => simp
  | succ h ih =>
    rw [List.range_succ, List.countP_append, ih]
    by_cases hc : c ≤ h
    · simp [hc]; omega
    · simp [hc]; omega

theorem jac_two {n : Nat} (ho : n % 2 = 1) : jac 2 n = !(n % 8 == 3 || n % 8 == 5) := by
  have e : mu 2 n = n / 2 - n / 4 := by
    unfold mu
    rw [countP_congr' _ (fun k => decide (n / 4 ≤ k)), count_gt]
    intro k hk
    have hk' : k < n / 2 := by simpa using hk
    have : 2 * (k + 1) % n = 2 * (k + 1) := Nat.mod_eq_of_lt (by omega)
    rw [this]
    by_cases h : n / 4 ≤ k
    · have : n / 2 < 2 * (k + 1) := by omega
      simp [h, this]
    · have : ¬ n / 2 < 2 * (k + 1) := by omega
      simp [h, this]
  unfold jac
  rw [e]
  have h8 : n % 8 = 1 ∨ n % 8 = 3 ∨ n % 8 = 5 ∨ n % 8 = 7 := by omega
  rcases h8 with h | h | h | h
  · have : (n / 2 - n / 4) % 2 = 0 := by omega
    simp [h, this]
  · have : (n / 2 - n / 4) % 2 = 1 := by omega
    simp [h, this]
  · have : (n / 2 - n / 4) % 2 = 1 := by omega
    simp [h, this]
  · have : (n / 2 - n / 4) % 2 = 0 := by omega
    simp [h, this]

/-! ### reciprocity -/
def sumTo (h : Nat) (f : Nat → Nat) : Nat := ((List.range h).map f).sum

theorem sumTo_succ (h : Nat) (f : Nat → Nat) : sumTo (h + 1) f = sumTo h f + f h := by
  unfold sumTo; rw [List.range_succ, List.map_append, List.sum_append]; simp
theorem sumTo_zero (f : Nat → Nat) : sumTo 0 f = 0 := rfl
theorem sumTo_congr {h : Nat} {f g : Nat → Nat} (hfg : ∀ k, k < h → f k = g k) : sumTo h f = sumTo h g := by
  induction h with
  | zero => rfl
  | succ h ih => rw [sumTo_succ, sumTo_succ, ih (fun k hk => hfg k (by omega)), hfg h (by omega)]
theorem sumTo_add (h : Nat) (f g : Nat → Nat) : sumTo h (fun k => f k + g k) = sumTo h f + sumTo h g := by
  induction h with
  | zero => rfl
  | succ h ih => rw [sumTo_succ, sumTo_succ, sumTo_succ, ih]; omega
theorem sumTo_const (h c : Nat) : sumTo h (fun _ => c) = h * c := by
  induction h with
  | zero => simp [sumTo_zero]
  | succ h ih => rw [sumTo_succ, ih, Nat.succ_mul]
theorem sumTo_parity (h : Nat) (f g : Nat → Nat) (hfg : ∀ k, k < h → f k % 2 = g k % 2) : sumTo h f % 2 = sumTo h g % 2 := by
  induction h with
  | zero => rfl
  | succ h ih =>
    have := ih (fun k hk => hfg k (by omega))
    have := hfg h (by omega)
    rw [sumTo_succ, sumTo_succ]; omega
theorem sumTo_swap (h g : Nat) (f : Nat → Nat → Nat) : sumTo h (fun k => sumTo g (fun j => f k j)) = sumTo g (fun j => sumTo h (fun k => f k j)) := by
  induction h with
  | zero => rw [sumTo_zero]; rw [sumTo_congr (g := fun _ => 0) (fun k _ => sumTo_zero _), sumTo_const]; simp
  | succ h ih => rw [sumTo_succ, ih, ← sumTo_add]; exact sumTo_congr (fun j _ => (sumTo_succ _ _).symm)
theorem countP_sumTo (h : Nat) (p : Nat → Bool) : (List.range h).countP p = sumTo h (fun k => if p k then 1 else 0) := by
  induction h with
  | zero => rfl
  | succ h ih =>
    rw [List.range_succ, List.countP_append, ih, sumTo_succ]
    cases hp : p h <;> simp [hp]

/-- how many j below g have (j + 1) * b ≤ x -/
theorem count_div (g b x : Nat) (hb : 0 < b) (hx : x / b ≤ g) : sumTo g (fun j => if b * (j + 1) ≤ x then 1 else 0) = x / b := by
  have h1 : ∀ g, sumTo g (fun j => if b * (j + 1) ≤ x then 1 else 0) = min g (x / b) := by
    intro g
    induction g with
    | zero => simp [sumTo_zero]
    | succ g ih =>
      rw [sumTo_succ, ih]
      by_cases h : b * (g + 1) ≤ x
      · have : g + 1 ≤ x / b := (Nat.le_div_iff_mul_le hb).2 (by rw [Nat.mul_comm]; exact h)
        rw [if_pos h]; omega
      · have : ¬ g + 1 ≤ x / b := fun hc => h (by have := (Nat.le_div_iff_mul_le hb).1 hc; rw [Nat.mul_comm]; exact this)
        rw [if_neg h]; omega
  rw [h1]; omega

theorem lattice {a n : Nat} (ha : a % 2 = 1) (hn : n % 2 = 1) (hc : Nat.Coprime a n) :
    sumTo (n / 2) (fun k => a * (k + 1) / n) + sumTo (a / 2) (fun j => n * (j + 1) / a) = (n / 2) * (a / 2) := by
  have b1 : ∀ k, k < n / 2 → a * (k + 1) / n ≤ a / 2 := by
    intro k hk
    have h1 : a * (k + 1) < n * (a / 2 + 1) := by
      have h2 : a * (k + 1) ≤ a * (n / 2) := Nat.mul_le_mul_left a (by omega)
      have h3 : 2 * (a * (n / 2)) < 2 * (n * (a / 2 + 1)) := by
        have e1 : 2 * (a * (n / 2)) = a * (n - 1) := by
          rw [Nat.mul_left_comm]; congr 1; omega
        have e2 : 2 * (n * (a / 2 + 1)) = n * (a + 1) := by
          rw [Nat.mul_left_comm]; congr 1; omega
        rw [e1, e2]
        have e3 : a * (n - 1) ≤ a * n := Nat.mul_le_mul_left a (by omega)
        have e4 : n * (a + 1) = a * n + n := by rw [Nat.mul_add, Nat.mul_comm n a, Nat.mul_one]
        omega
      omega
    have := (Nat.div_lt_iff_lt_mul (show 0 < n by omega)).2 (by rw [Nat.mul_comm]; exact h1)
    omega
  have b2 : ∀ j, j < a / 2 → n * (j + 1) / a ≤ n / 2 := by
    intro j hj
    have h1 : n * (j + 1) < a * (n / 2 + 1) := by
      have h2 : n * (j + 1) ≤ n * (a / 2) := Nat.mul_le_mul_left n (by omega)
      have h3 : 2 * (n * (a / 2)) < 2 * (a * (n / 2 + 1)) := by
        have e1 : 2 * (n * (a / 2)) = n * (a - 1) := by
          rw [Nat.mul_left_comm]; congr 1; omega
        have e2 : 2 * (a * (n / 2 + 1)) = a * (n + 1) := by
          rw [Nat.mul_left_comm]; congr 1; omega
        rw [e1, e2]
        have e3 : n * (a - 1) ≤ n * a := Nat.mul_le_mul_left n (by omega)
        have e4 : a * (n + 1) = n * a + a := by rw [Nat.mul_add, Nat.mul_comm a n, Nat.mul_one]
        omega
      omega
    have := (Nat.div_lt_iff_lt_mul (show 0 < a by omega)).2 (by rw [Nat.mul_comm]; exact h1)
    omega
  have e1 : sumTo (n / 2) (fun k => a * (k + 1) / n) = sumTo (n / 2) (fun k => sumTo (a / 2) (fun j => if n * (j + 1) ≤ a * (k + 1) then 1 else 0)) :=
    sumTo_congr fun k hk => (count_div (a / 2) n (a * (k + 1)) (by omega) (b1 k hk)).symm
  have e2 : sumTo (a / 2) (fun j => n * (j + 1) / a) = sumTo (a / 2) (fun j => sumTo (n / 2) (fun k => if a * (k + 1) ≤ n * (j + 1) then 1 else 0)) :=
    sumTo_congr fun j hj => (count_div (n / 2) a (n * (j + 1)) (by omega) (b2 j hj)).symm
  rw [e1, e2, sumTo_swap, ← sumTo_add]
  have e3 : ∀ j, j < a / 2 → sumTo (n / 2) (fun k => if n * (j + 1) ≤ a * (k + 1) then 1 else 0) + sumTo (n / 2) (fun k => if a * (k + 1) ≤ n * (j + 1) then 1 else 0) = n / 2 := by
    intro j hj
    rw [← sumTo_add, sumTo_congr (g := fun _ => 1), sumTo_const, Nat.mul_one]
    intro k hk
    have hne : n * (j + 1) ≠ a * (k + 1) := by
      intro he
      have hd : n ∣ a * (k + 1) := ⟨j + 1, he.symm⟩
      have := Nat.Coprime.dvd_of_dvd_mul_left hc.symm hd
      have := Nat.le_of_dvd (by omega) this
      omega
    rcases Nat.lt_or_gt_of_ne hne with h | h
    · rw [if_pos (by omega), if_neg (by omega)]
    · rw [if_neg (by omega), if_pos (by omega)]
  rw [sumTo_congr e3, sumTo_const, Nat.mul_comm]

theorem mu_floor {a n : Nat} (ha : a % 2 = 1) (hn : n % 2 = 1) (hc : Nat.Coprime a n) : mu a n % 2 = sumTo (n / 2) (fun k => a * (k + 1) / n) % 2 := by
  have hperm := (sg_perm hn hc).sum_nat
  have hs : sumTo (n / 2) (sg a n) = sumTo (n / 2) (fun k => k) := by
    unfold sumTo; rw [hperm, List.map_id']
  have hs1 : sumTo (n / 2) (fun k => sg a n k + 1) = sumTo (n / 2) (fun k => k + 1) := by
    rw [sumTo_add, sumTo_add, hs]
  -- termwise parity: (k+1) ≡ floor + neg + (sg+1)
  have ht : sumTo (n / 2) (fun k => k + 1) % 2 = sumTo (n / 2) (fun k => (a * (k + 1) / n + (if n / 2 < a * (k + 1) % n then 1 else 0)) + (sg a n k + 1)) % 2 := by
    apply sumTo_parity
    intro k hk
    have h0 := res_ne hc (show k + 1 < n by omega)
    have h1 := Nat.mod_lt (a * (k + 1)) (show 0 < n by omega)
    have hd := Nat.div_add_mod (a * (k + 1)) n
    have hp1 : (a * (k + 1)) % 2 = (k + 1) % 2 := by rw [Nat.mul_mod, ha, Nat.one_mul, Nat.mod_mod]
    have hp2 : (n * (a * (k + 1) / n)) % 2 = (a * (k + 1) / n) % 2 := by rw [Nat.mul_mod, hn, Nat.one_mul, Nat.mod_mod]
    unfold sg
    generalize a * (k + 1) % n = r at *
    generalize n * (a * (k + 1) / n) = u at *
    generalize a * (k + 1) / n = q at *
    generalize a * (k + 1) = v at *
    split <;> omega
  rw [sumTo_add _ (fun k => a * (k + 1) / n + (if n / 2 < a * (k + 1) % n then 1 else 0)) (fun k => sg a n k + 1), sumTo_add _ (fun k => a * (k + 1) / n), hs1] at ht
  have hm : mu a n = sumTo (n / 2) (fun k => if n / 2 < a * (k + 1) % n then 1 else 0) := by
    unfold mu; rw [countP_sumTo]
    exact sumTo_congr (fun k _ => by by_cases h : n / 2 < a * (k + 1) % n <;> simp [h])
  rw [hm]
  omega

theorem recip {a n : Nat} (ha : a % 2 = 1) (hn : n % 2 = 1) (hc : Nat.Coprime a n) : jac a n = (jac n a ^^ (a % 4 == 3 && n % 4 == 3)) := by
  have h1 := mu_floor ha hn hc
  have h2 := mu_floor hn ha hc.symm
  have h3 := lattice ha hn hc
  have h4 : (mu a n + mu n a) % 2 = (n / 2) * (a / 2) % 2 := by rw [← h3]; omega
  have h5 : (n / 2) * (a / 2) % 2 = if a % 4 = 3 ∧ n % 4 = 3 then 1 else 0 := by
    rw [Nat.mul_mod]
    by_cases h : a % 4 = 3
    · by_cases h' : n % 4 = 3
      · have e1 : n / 2 % 2 = 1 := by omega
        have e2 : a / 2 % 2 = 1 := by omega
        simp [h, h', e1, e2]
      · have e1 : n / 2 % 2 = 0 := by omega
        simp [h', e1]
    · have e2 : a / 2 % 2 = 0 := by omega
      simp [h, e2]
  rw [h5] at h4
  unfold jac
  by_cases h : a % 4 = 3 ∧ n % 4 = 3
  · rw [if_pos h] at h4
    have : (mu a n % 2 = 0 ∧ mu n a % 2 = 1) ∨ (mu a n % 2 = 1 ∧ mu n a % 2 = 0) := by omega
    rcases this with ⟨x, y⟩ | ⟨x, y⟩ <;> simp [x, y, h.1, h.2]
  · rw [if_neg h] at h4
    have hb : (a % 4 == 3 && n % 4 == 3) = false := by
      by_cases h' : a % 4 = 3
      · have : ¬ n % 4 = 3 := fun e => h ⟨h', e⟩
        simp [this]
      · simp [h']
    have : (mu a n % 2 = 0 ∧ mu n a % 2 = 0) ∨ (mu a n % 2 = 1 ∧ mu n a % 2 = 1) := by omega
    rcases this with ⟨x, y⟩ | ⟨x, y⟩ <;> simp [x, y, hb]

end Fk
