import Derived.Test.YtlenfjpogmmfhaaLawA2
import Derived.OpenShut
namespace Go.Proofs.Ytlenfjpogmmfhaa
open Go.RowKit Fk

set_option maxRecDepth 100000 in
set_option maxHeartbeats 4000000 in
theorem groupPowers_walk (x y m n : Int) (_ : (Lit.int .i64 x).wf = true) (_ : (Lit.int .i64 y).wf = true) (hm : (Lit.int .i32 m).wf = true) (hn : (Lit.int .i32 n).wf = true) (w : World) :
    Calls Try.prog 5 #[.int .i64 x, .int .i64 y, .int .i32 m, .int .i32 n] w fun e w' => e = .returned (.bool true) ∧ Below w.heap.size w w' := by
  have hm1 := bounds_i32 hm
  have hn1 := bounds_i32 hn
  have hB : Below w.heap.size w w := Below.refl _ _
  obtain ⟨a, hx⟩ : ∃ a, elV x = a := ⟨_, rfl⟩
  obtain ⟨b, hy⟩ : ∃ b, elV y = b := ⟨_, rfl⟩
  have ha : vld a = true := hx ▸ vld_elV x
  have hb : vld b = true := hy ▸ vld_elV y
  have q1 := pow_0 ha
  have q2 := pow_1 ha
  have q3 := pow_2 ha
  have q4 := pow_Q ha
  have q5 : powC a (m + 1073741789) = powC a m := pow_congr' (by omega)
  have q6 : powC a (m - 1073741789) = powC a m := pow_congr' (by omega)
  have q7 := pow_add' ha m n
  have q8 := pow_mul' ha m n
  have q9 := mul_pow' ha hb m
  have p1 : -4611686018427387904 ≤ m * n ∧ m * n ≤ 4611686018427387904 := prod_bounds (by omega) (by omega) (by omega) (by omega)
  clear hm hn
  go_enter Try.func5, Try.ntmps5
  go_wp2_with (first | (go_at_call 13; refine (sane09 _).mono ?_; rintro e w1 ⟨rfl, hb⟩; replace hB := hB.trans (hb.mono hB.size); clear hb) | (go_at_call 20; refine (law_element _ _).mono ?_; rintro e w1 ⟨rfl, rfl⟩) | (go_at_call 21; refine (law_mulB _ _ _ _ (by simp)).mono ?_; rintro e w1 ⟨rfl, hb⟩; replace hB := hB.trans (hb.mono hB.size); clear hb) | (go_at_call 22; refine (law_pow _ _ _).mono ?_; rintro e w1 ⟨rfl, hb⟩; replace hB := hB.trans (hb.mono hB.size); clear hb))
  go_ret
  exact ⟨rfl, hB⟩

set_option maxRecDepth 100000 in
set_option maxHeartbeats 4000000 in
theorem groupSquares_walk (x : Int) (w : World) :
    Calls Try.prog 6 #[.int .i64 x] w fun e w' => e = .returned (.bool true) ∧ Below w.heap.size w w' := by
  have hB : Below w.heap.size w w := Below.refl _ _
  have t1 := Int.tmod_lt_of_pos x (show (0 : Int) < 2147483579 by omega)
  have t2 : -2147483579 < x.tmod 2147483579 := Int.lt_tmod_of_pos x (by omega)
  by_cases hneg : x.tmod 2147483579 < 0
  · have e1 := tmod_neg (show (0 : Int) < 2147483579 by omega) hneg
    have hx : vld x = false := vld_out (fun hc => by have := Int.tmod_nonneg (2147483579 : Int) (show 0 ≤ x by omega); omega)
    have hxn : x < 0 := by
      rcases Int.lt_or_le x 0 with h | h
      · exact h
      · have := Int.tmod_nonneg (2147483579 : Int) h; omega
    obtain ⟨N, hN⟩ : ∃ N, x.tmod 2147483579 + 2147483579 = N := ⟨_, rfl⟩
    have n1 : 1 ≤ N := by omega
    have n2 : N < 2147483579 := by omega
    have hne : (N == x) = false := by simp; omega
    have q1 := vld_opp n1 n2
    have q2 := vld_sq n1 n2
    have hp := sq_boundsI n1 n2
    clear e1
    by_cases hv : vld N = true
    · have q3 := pow_root hv
      rw [hv] at q1
      go_enter Try.func6, Try.ntmps6
      go_wp2_with (first | (go_at_call 13; refine (sane09 _).mono ?_; rintro e w1 ⟨rfl, hb⟩; replace hB := hB.trans (hb.mono hB.size); clear hb) | (go_at_call 22; refine (law_pow _ _ _).mono ?_; rintro e w1 ⟨rfl, hb⟩; replace hB := hB.trans (hb.mono hB.size); clear hb) | (go_at_call 18; refine (valid_any _ _).mono ?_; rintro e w1 ⟨rfl, rfl⟩))
      go_ret
      exact ⟨rfl, hB⟩
    · have hv' : vld N = false := by simpa using hv
      rw [hv'] at q1
      clear hv
      go_enter Try.func6, Try.ntmps6
      go_wp2_with (first | (go_at_call 13; refine (sane09 _).mono ?_; rintro e w1 ⟨rfl, hb⟩; replace hB := hB.trans (hb.mono hB.size); clear hb) | (go_at_call 22; refine (law_pow _ _ _).mono ?_; rintro e w1 ⟨rfl, hb⟩; replace hB := hB.trans (hb.mono hB.size); clear hb) | (go_at_call 18; refine (valid_any _ _).mono ?_; rintro e w1 ⟨rfl, rfl⟩))
      go_ret
      exact ⟨rfl, hB⟩
  · have hpos : 0 ≤ x.tmod 2147483579 := by omega
    have e1 := tmod_pos (show (0 : Int) < 2147483579 by omega) hpos
    clear hneg
    obtain ⟨N, hN⟩ : ∃ N, x.tmod 2147483579 = N := ⟨_, rfl⟩
    by_cases h0 : N = 0
    · subst h0
      have r0 := vld_0
      have r1 := vld_P
      have r2 : vld (-4) = false := vld_out (by omega)
      clear e1
      go_enter Try.func6, Try.ntmps6
      go_wp2_with (first | (go_at_call 13; refine (sane09 _).mono ?_; rintro e w1 ⟨rfl, hb⟩; replace hB := hB.trans (hb.mono hB.size); clear hb) | (go_at_call 22; refine (law_pow _ _ _).mono ?_; rintro e w1 ⟨rfl, hb⟩; replace hB := hB.trans (hb.mono hB.size); clear hb) | (go_at_call 18; refine (valid_any _ _).mono ?_; rintro e w1 ⟨rfl, rfl⟩))
      go_ret
      exact ⟨rfl, hB⟩
    · have n1 : 1 ≤ N := by omega
      have n2 : N < 2147483579 := by omega
      have q1 := vld_opp n1 n2
      have q2 := vld_sq n1 n2
      have hp := sq_boundsI n1 n2
      by_cases hxN : x = N
      · have hne : (N == x) = true := by simp [hxN]
        rw [← hxN] at hne hN n1 n2 q1 q2 hp
        clear hxN h0 e1 N
        have hne' : (x == x) = true := hne
        by_cases hv : vld x = true
        · have q3 := pow_root hv
          rw [hv] at q1
          go_enter Try.func6, Try.ntmps6
          go_wp2_with (first | (go_at_call 13; refine (sane09 _).mono ?_; rintro e w1 ⟨rfl, hb⟩; replace hB := hB.trans (hb.mono hB.size); clear hb) | (go_at_call 22; refine (law_pow _ _ _).mono ?_; rintro e w1 ⟨rfl, hb⟩; replace hB := hB.trans (hb.mono hB.size); clear hb) | (go_at_call 18; refine (valid_any _ _).mono ?_; rintro e w1 ⟨rfl, rfl⟩))
          go_ret
          exact ⟨rfl, hB⟩
        · have hv' : vld x = false := by simpa using hv
          rw [hv'] at q1
          clear hv
          go_enter Try.func6, Try.ntmps6
          go_wp2_with (first | (go_at_call 13; refine (sane09 _).mono ?_; rintro e w1 ⟨rfl, hb⟩; replace hB := hB.trans (hb.mono hB.size); clear hb) | (go_at_call 22; refine (law_pow _ _ _).mono ?_; rintro e w1 ⟨rfl, hb⟩; replace hB := hB.trans (hb.mono hB.size); clear hb) | (go_at_call 18; refine (valid_any _ _).mono ?_; rintro e w1 ⟨rfl, rfl⟩))
          go_ret
          exact ⟨rfl, hB⟩
      · have hne : (N != x) = true := by simp; omega
        have hx : vld x = false := vld_out (fun hc => hxN (by rw [← hN, e1]; exact (Int.emod_eq_of_lt (by omega) hc.2).symm))
        clear e1 h0 hxN
        by_cases hv : vld N = true
        · have q3 := pow_root hv
          rw [hv] at q1
          go_enter Try.func6, Try.ntmps6
          go_wp2_with (first | (go_at_call 13; refine (sane09 _).mono ?_; rintro e w1 ⟨rfl, hb⟩; replace hB := hB.trans (hb.mono hB.size); clear hb) | (go_at_call 22; refine (law_pow _ _ _).mono ?_; rintro e w1 ⟨rfl, hb⟩; replace hB := hB.trans (hb.mono hB.size); clear hb) | (go_at_call 18; refine (valid_any _ _).mono ?_; rintro e w1 ⟨rfl, rfl⟩))
          go_ret
          exact ⟨rfl, hB⟩
        · have hv' : vld N = false := by simpa using hv
          rw [hv'] at q1
          clear hv
          go_enter Try.func6, Try.ntmps6
          go_wp2_with (first | (go_at_call 13; refine (sane09 _).mono ?_; rintro e w1 ⟨rfl, hb⟩; replace hB := hB.trans (hb.mono hB.size); clear hb) | (go_at_call 22; refine (law_pow _ _ _).mono ?_; rintro e w1 ⟨rfl, hb⟩; replace hB := hB.trans (hb.mono hB.size); clear hb) | (go_at_call 18; refine (valid_any _ _).mono ?_; rintro e w1 ⟨rfl, rfl⟩))
          go_ret
          exact ⟨rfl, hB⟩

/-- the facts that decide the law's tests, for the number n -/
theorem inv_second (n : Int) : (vld n = true → numE n = 0 ∧ elE (numC n) = 0 ∧ elC (numC n) = n ∧ 1 ≤ numC n ∧ numC n ≤ 1073741789) ∧ (vld n = false → numE n = 90 ∧ numC n = 0) := by
  constructor
  · intro h
    obtain ⟨h1, h2, h3⟩ := el_num h
    exact ⟨by simp [numE, h], by simp [elE, h2, h3], h1, h2, h3⟩
  · intro h
    exact ⟨by simp [numE, h], by simp [numC, h]⟩

set_option maxRecDepth 100000 in
set_option maxHeartbeats 4000000 in
theorem inv_out1 (n m : Int) (k1 : elE n = 1) (k2 : elC n = 0) (hn : n < 1) (s1 : numE n = 0) (s2 : elE (numC n) = 0) (s3 : elC (numC n) = n) (s4 : 1 ≤ numC n) (s5 : numC n ≤ 1073741789) (hv : vld n = true) (w : World) :
    Calls Try.prog 7 #[.int .i64 n, .int .i64 m] w fun e w' => e = .returned (.bool true) ∧ Below w.heap.size w w' := by
  have hB : Below w.heap.size w w := Below.refl _ _
  go_enter Try.func7, Try.ntmps7
  go_wp2_with (first | (go_at_call 13; refine (sane09 _).mono ?_; rintro e w1 ⟨rfl, hb⟩; replace hB := hB.trans (hb.mono hB.size); clear hb) | (go_at_call 23; refine (element_any _ _).mono ?_; rintro e w1 ⟨rfl, rfl⟩) | (go_at_call 24; refine (number_any _ _).mono ?_; rintro e w1 ⟨rfl, rfl⟩) | (go_at_call 18; refine (valid_any _ _).mono ?_; rintro e w1 ⟨rfl, rfl⟩))
  all_goals go_ret
  all_goals exact ⟨rfl, hB⟩

set_option maxRecDepth 100000 in
set_option maxHeartbeats 4000000 in
theorem inv_out2 (n m : Int) (k1 : elE n = 1) (k2 : elC n = 0) (hn : n < 1) (s1 : numE n = 90) (s2 : numC n = 0) (hv : vld n = false) (w : World) :
    Calls Try.prog 7 #[.int .i64 n, .int .i64 m] w fun e w' => e = .returned (.bool true) ∧ Below w.heap.size w w' := by
  have hB : Below w.heap.size w w := Below.refl _ _
  go_enter Try.func7, Try.ntmps7
  go_wp2_with (first | (go_at_call 13; refine (sane09 _).mono ?_; rintro e w1 ⟨rfl, hb⟩; replace hB := hB.trans (hb.mono hB.size); clear hb) | (go_at_call 23; refine (element_any _ _).mono ?_; rintro e w1 ⟨rfl, rfl⟩) | (go_at_call 24; refine (number_any _ _).mono ?_; rintro e w1 ⟨rfl, rfl⟩) | (go_at_call 18; refine (valid_any _ _).mono ?_; rintro e w1 ⟨rfl, rfl⟩))
  all_goals go_ret
  all_goals exact ⟨rfl, hB⟩

set_option maxRecDepth 100000 in
set_option maxHeartbeats 4000000 in
theorem inv_out3 (n m : Int) (k1 : elE n = 1) (k2 : elC n = 0) (hn : 1073741789 < n) (s1 : numE n = 0) (s2 : elE (numC n) = 0) (s3 : elC (numC n) = n) (s4 : 1 ≤ numC n) (s5 : numC n ≤ 1073741789) (hv : vld n = true) (w : World) :
    Calls Try.prog 7 #[.int .i64 n, .int .i64 m] w fun e w' => e = .returned (.bool true) ∧ Below w.heap.size w w' := by
  have hB : Below w.heap.size w w := Below.refl _ _
  go_enter Try.func7, Try.ntmps7
  go_wp2_with (first | (go_at_call 13; refine (sane09 _).mono ?_; rintro e w1 ⟨rfl, hb⟩; replace hB := hB.trans (hb.mono hB.size); clear hb) | (go_at_call 23; refine (element_any _ _).mono ?_; rintro e w1 ⟨rfl, rfl⟩) | (go_at_call 24; refine (number_any _ _).mono ?_; rintro e w1 ⟨rfl, rfl⟩) | (go_at_call 18; refine (valid_any _ _).mono ?_; rintro e w1 ⟨rfl, rfl⟩))
  all_goals go_ret
  all_goals exact ⟨rfl, hB⟩

set_option maxRecDepth 100000 in
set_option maxHeartbeats 4000000 in
theorem inv_out4 (n m : Int) (k1 : elE n = 1) (k2 : elC n = 0) (hn : 1073741789 < n) (s1 : numE n = 90) (s2 : numC n = 0) (hv : vld n = false) (w : World) :
    Calls Try.prog 7 #[.int .i64 n, .int .i64 m] w fun e w' => e = .returned (.bool true) ∧ Below w.heap.size w w' := by
  have hB : Below w.heap.size w w := Below.refl _ _
  go_enter Try.func7, Try.ntmps7
  go_wp2_with (first | (go_at_call 13; refine (sane09 _).mono ?_; rintro e w1 ⟨rfl, hb⟩; replace hB := hB.trans (hb.mono hB.size); clear hb) | (go_at_call 23; refine (element_any _ _).mono ?_; rintro e w1 ⟨rfl, rfl⟩) | (go_at_call 24; refine (number_any _ _).mono ?_; rintro e w1 ⟨rfl, rfl⟩) | (go_at_call 18; refine (valid_any _ _).mono ?_; rintro e w1 ⟨rfl, rfl⟩))
  all_goals go_ret
  all_goals exact ⟨rfl, hB⟩

set_option maxRecDepth 100000 in
set_option maxHeartbeats 4000000 in
theorem inv_same1 (n m : Int) (hn1 : 1 ≤ n) (hn2 : n ≤ 1073741789) (k1 : elE n = 0) (k2 : numE n = 0) (k3 : numC n = n) (hv : vld n = true) (k4 : elC n = n) (m1 : elE m = 0) (m2 : (n == elC m) = (n == m)) (w : World) :
    Calls Try.prog 7 #[.int .i64 n, .int .i64 m] w fun e w' => e = .returned (.bool true) ∧ Below w.heap.size w w' := by
  have hB : Below w.heap.size w w := Below.refl _ _
  go_enter Try.func7, Try.ntmps7
  go_wp2_with (first | (go_at_call 13; refine (sane09 _).mono ?_; rintro e w1 ⟨rfl, hb⟩; replace hB := hB.trans (hb.mono hB.size); clear hb) | (go_at_call 23; refine (element_any _ _).mono ?_; rintro e w1 ⟨rfl, rfl⟩) | (go_at_call 24; refine (number_any _ _).mono ?_; rintro e w1 ⟨rfl, rfl⟩) | (go_at_call 18; refine (valid_any _ _).mono ?_; rintro e w1 ⟨rfl, rfl⟩))
  all_goals go_ret
  all_goals exact ⟨rfl, hB⟩

set_option maxRecDepth 100000 in
set_option maxHeartbeats 4000000 in
theorem inv_same2 (n m : Int) (hn1 : 1 ≤ n) (hn2 : n ≤ 1073741789) (k1 : elE n = 0) (k2 : numE n = 0) (k3 : numC n = n) (hv : vld n = true) (k4 : elC n = n) (m1 : elE m = 1) (w : World) :
    Calls Try.prog 7 #[.int .i64 n, .int .i64 m] w fun e w' => e = .returned (.bool true) ∧ Below w.heap.size w w' := by
  have hB : Below w.heap.size w w := Below.refl _ _
  go_enter Try.func7, Try.ntmps7
  go_wp2_with (first | (go_at_call 13; refine (sane09 _).mono ?_; rintro e w1 ⟨rfl, hb⟩; replace hB := hB.trans (hb.mono hB.size); clear hb) | (go_at_call 23; refine (element_any _ _).mono ?_; rintro e w1 ⟨rfl, rfl⟩) | (go_at_call 24; refine (number_any _ _).mono ?_; rintro e w1 ⟨rfl, rfl⟩) | (go_at_call 18; refine (valid_any _ _).mono ?_; rintro e w1 ⟨rfl, rfl⟩))
  all_goals go_ret
  all_goals exact ⟨rfl, hB⟩

set_option maxRecDepth 100000 in
set_option maxHeartbeats 4000000 in
theorem inv_diff1 (n m : Int) (hn1 : 1 ≤ n) (hn2 : n ≤ 1073741789) (k1 : elE n = 0) (k2 : numE (2147483579 - n) = 0) (k3 : numC (2147483579 - n) = n) (k4 : vld (2147483579 - n) = true) (k5 : elC n = 2147483579 - n) (k6 : ((2147483579 - n) != n) = true) (hv : vld n = false) (s1 : numE n = 90) (s2 : numC n = 0) (m1 : elE m = 0) (m2 : ((2147483579 - n) == elC m) = (n == m)) (w : World) :
    Calls Try.prog 7 #[.int .i64 n, .int .i64 m] w fun e w' => e = .returned (.bool true) ∧ Below w.heap.size w w' := by
  have hB : Below w.heap.size w w := Below.refl _ _
  go_enter Try.func7, Try.ntmps7
  go_wp2_with (first | (go_at_call 13; refine (sane09 _).mono ?_; rintro e w1 ⟨rfl, hb⟩; replace hB := hB.trans (hb.mono hB.size); clear hb) | (go_at_call 23; refine (element_any _ _).mono ?_; rintro e w1 ⟨rfl, rfl⟩) | (go_at_call 24; refine (number_any _ _).mono ?_; rintro e w1 ⟨rfl, rfl⟩) | (go_at_call 18; refine (valid_any _ _).mono ?_; rintro e w1 ⟨rfl, rfl⟩))
  all_goals go_ret
  all_goals exact ⟨rfl, hB⟩

set_option maxRecDepth 100000 in
set_option maxHeartbeats 4000000 in
theorem inv_diff2 (n m : Int) (hn1 : 1 ≤ n) (hn2 : n ≤ 1073741789) (k1 : elE n = 0) (k2 : numE (2147483579 - n) = 0) (k3 : numC (2147483579 - n) = n) (k4 : vld (2147483579 - n) = true) (k5 : elC n = 2147483579 - n) (k6 : ((2147483579 - n) != n) = true) (hv : vld n = false) (s1 : numE n = 90) (s2 : numC n = 0) (m1 : elE m = 1) (w : World) :
    Calls Try.prog 7 #[.int .i64 n, .int .i64 m] w fun e w' => e = .returned (.bool true) ∧ Below w.heap.size w w' := by
  have hB : Below w.heap.size w w := Below.refl _ _
  go_enter Try.func7, Try.ntmps7
  go_wp2_with (first | (go_at_call 13; refine (sane09 _).mono ?_; rintro e w1 ⟨rfl, hb⟩; replace hB := hB.trans (hb.mono hB.size); clear hb) | (go_at_call 23; refine (element_any _ _).mono ?_; rintro e w1 ⟨rfl, rfl⟩) | (go_at_call 24; refine (number_any _ _).mono ?_; rintro e w1 ⟨rfl, rfl⟩) | (go_at_call 18; refine (valid_any _ _).mono ?_; rintro e w1 ⟨rfl, rfl⟩))
  all_goals go_ret
  all_goals exact ⟨rfl, hB⟩

theorem groupInverse_walk (n m : Int) (w : World) :
    Calls Try.prog 7 #[.int .i64 n, .int .i64 m] w fun e w' => e = .returned (.bool true) ∧ Below w.heap.size w w' := by
  have hs := inv_second n
  by_cases hn : 1 ≤ n ∧ n ≤ 1073741789
  · have k1 : elE n = 0 := by simp [elE, hn]
    have k2 : numE (elC n) = 0 := by simp [numE, vld_el hn.1 hn.2]
    have k3 := num_el hn.1 hn.2
    have k4 := vld_el hn.1 hn.2
    have hm : (elE m = 0 ∧ (elC n == elC m) = (n == m)) ∨ elE m = 1 := by
      by_cases hm : 1 ≤ m ∧ m ≤ 1073741789
      · left
        refine ⟨by simp [elE, hm], ?_⟩
        by_cases h : n = m
        · simp [h]
        · have : ¬ elC n = elC m := fun hc => h (el_inj hn.1 hn.2 hm.1 hm.2 hc)
          rw [beq_eq_false_iff_ne.2 h, beq_eq_false_iff_ne.2 this]
      · right
        simp only [elE]; rw [if_neg hm]
    by_cases hv : vld n = true
    · have k5 : elC n = n := by simp [elC, hn, hv]
      rw [k5] at k2 k3 hm
      rcases hm with ⟨m1, m2⟩ | m1
      · exact inv_same1 n m hn.1 hn.2 k1 k2 k3 hv k5 m1 m2 w
      · exact inv_same2 n m hn.1 hn.2 k1 k2 k3 hv k5 m1 w
    · have hv' : vld n = false := by simpa using hv
      have k5 : elC n = 2147483579 - n := by simp [elC, hn, hv']
      rw [k5] at k2 k3 k4 hm
      have k6 : ((2147483579 - n) != n) = true := by
        rw [bne_iff_ne]; omega
      rcases hm with ⟨m1, m2⟩ | m1
      · exact inv_diff1 n m hn.1 hn.2 k1 k2 k3 k4 k5 k6 hv' (hs.2 hv').1 (hs.2 hv').2 m1 m2 w
      · exact inv_diff2 n m hn.1 hn.2 k1 k2 k3 k4 k5 k6 hv' (hs.2 hv').1 (hs.2 hv').2 m1 w
  · have k1 : elE n = 1 := by simp only [elE]; rw [if_neg hn]
    have k2 : elC n = 0 := by simp only [elC]; rw [if_neg hn]
    cases hv : vld n with
    | true =>
      obtain ⟨s1, s2, s3, s4, s5⟩ := hs.1 hv
      by_cases h1 : n < 1
      · exact inv_out1 n m k1 k2 h1 s1 s2 s3 s4 s5 hv w
      · exact inv_out3 n m k1 k2 (by omega) s1 s2 s3 s4 s5 hv w
    | false =>
      obtain ⟨s1, s2⟩ := hs.2 hv
      by_cases h1 : n < 1
      · exact inv_out2 n m k1 k2 h1 s1 s2 hv w
      · exact inv_out4 n m k1 k2 (by omega) s1 s2 hv w
end Go.Proofs.Ytlenfjpogmmfhaa
