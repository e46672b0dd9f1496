import Derived.Test.YtlbnbginippjfaaGroup
namespace Go.Proofs.Ytlbnbginippjfaa
open Go.RowKit Fk

set_option maxHeartbeats 400000 in
theorem refpower_nat (a n : Nat) (ha : a < 2147483579) (hn : n < 2147483579) (w : World) :
    Calls Try.prog 50 #[.int .i64 a, .int .i64 n] w fun e w' => e = .returned (.int .i64 ((a ^ n % 2147483579 : Nat) : Int)) ∧ w = w' := by
  go_enter Try.func50, Try.ntmps50
  go_wp2
  go_loopg [0, 1, 5] n (fun k x m c wr => w = wr ∧ ∃ (x' c' : Nat), x = .int .i64 x' ∧ m = .int .i64 k ∧ c = .int .i64 c' ∧ k < 2147483579 ∧ x' < 2147483579 ∧ c' < 2147483579 ∧ PInv a n c' x' k)
  case atStart => exact ⟨rfl, a, 1, rfl, rfl, rfl, hn, ha, by omega, PInv.start a n⟩
  case round =>
    obtain ⟨rfl, x', c', rfl, rfl, rfl, b1, b2, b3, hI⟩ := hrel
    have m1 : c' * x' ≤ 2147483579 * 2147483579 := Nat.mul_le_mul (by omega) (by omega)
    have m2 : x' * x' ≤ 2147483579 * 2147483579 := Nat.mul_le_mul (by omega) (by omega)
    have m3 : (c' : Int) * x' = ((c' * x' : Nat) : Int) := by simp
    have m4 : (x' : Int) * x' = ((x' * x' : Nat) : Int) := by simp
    have m5 : 0 ≤ (c' : Int) * x' := by omega
    have m6 : 0 ≤ (x' : Int) * x' := by omega
    have m7 : (c' : Int) * x' ≤ 2147483579 * 2147483579 := by omega
    have m8 : (x' : Int) * x' ≤ 2147483579 * 2147483579 := by omega
    by_cases hk : 0 < gk
    · by_cases ho : gk % 2 = 1
      · have hI2 := PInv.odd hI ho
        have t1 : ((gk : Int) % 2 == 1) = true := by simp; omega
        clear hI ho m3 m4
        go_wp2
        go_roundg (gk / 2)
        case measure => omega
        case rel => exact ⟨rfl, x' * x' % 2147483579, c' * x' % 2147483579, by go_num, by go_num, by go_num, by omega, Nat.mod_lt _ (by omega), Nat.mod_lt _ (by omega), hI2⟩
      · have hI2 := PInv.even hI ho
        have t1 : ((gk : Int) % 2 == 1) = false := by simp; omega
        clear hI ho m3 m4
        go_wp2
        go_roundg (gk / 2)
        case measure => omega
        case rel => exact ⟨rfl, x' * x' % 2147483579, c', by go_num, by go_num, rfl, by omega, Nat.mod_lt _ (by omega), by omega, hI2⟩
    · obtain rfl : gk = 0 := by omega
      have hI2 := PInv.done hI b3
      clear hI m3 m4
      go_wp2
      go_ret
      exact ⟨ret_int (by rw [hI2]), rfl⟩
theorem refpower_any (a n : Int) (h1 : 0 ≤ a) (h2 : a < 2147483579) (h3 : 0 ≤ n) (h4 : n < 2147483579) (w : World) :
    Calls Try.prog 50 #[.int .i64 a, .int .i64 n] w fun e w' => e = .returned (.int .i64 (pwr a n)) ∧ w = w' := by
  have := refpower_nat a.toNat n.toNat (by omega) (by omega) w
  rw [Int.toNat_of_nonneg h1, Int.toNat_of_nonneg h3] at this
  exact this

set_option maxHeartbeats 400000 in
theorem refvalid_any (x : Int) (w : World) :
    Calls Try.prog 26 #[.int .i64 x] w fun e w' => e = .returned (.bool (vld x)) ∧ w = w' := by
  by_cases h1 : 1 ≤ x
  · by_cases h2 : x < 2147483579
    · rw [vld_pow h1 h2]
      go_enter Try.func26, Try.ntmps26
      go_wp2_with (go_at_call 50; refine (refpower_any _ _ (by omega) (by omega) (by omega) (by omega) _).mono ?_; rintro e w' ⟨rfl, rfl⟩)
      go_ret
      exact ⟨rfl, rfl⟩
    · rw [vld_out (by omega)]
      go_enter Try.func26, Try.ntmps26
      go_wp2
      go_ret
      exact ⟨rfl, rfl⟩
  · rw [vld_out (by omega)]
    go_enter Try.func26, Try.ntmps26
    go_wp2
    go_ret
    exact ⟨rfl, rfl⟩

set_option maxHeartbeats 400000 in
theorem refmul_any (a b : Int) (w : World) :
    Calls Try.prog 39 #[.int .i64 a, .int .i64 b] w fun e w' => e = .returned (.tuple #[.int .i64 (mulC a b), .int .i64 (mulE a b)]) ∧ w = w' := by
  by_cases ha : vld a = true
  · by_cases hb : vld b = true
    · have l1 := vld_lo ha
      have l2 := vld_hi ha
      have l3 := vld_lo hb
      have l4 := vld_hi hb
      have e1 : mulC a b = a * b % 2147483579 := by simp [mulC, ha, hb]
      have e2 : mulE a b = 0 := by simp [mulE, ha, hb]
      rw [e1, e2]
      clear e1 e2
      have m1 : 0 ≤ a * b := Int.mul_nonneg (by omega) (by omega)
      have m2 : a * b ≤ 2147483579 * 2147483579 := Int.mul_le_mul (by omega) (by omega) (by omega) (by omega)
      go_enter Try.func39, Try.ntmps39
      go_wp2_with (go_at_call 26; refine (refvalid_any _ _).mono ?_; rintro e w' ⟨rfl, rfl⟩)
      go_ret2
      exact ⟨rfl, rfl⟩
    · have hb' : vld b = false := by simpa using hb
      have e1 : mulC a b = 0 := by simp [mulC, hb']
      have e2 : mulE a b = 90 := by simp [mulE, hb']
      rw [e1, e2]
      clear e1 e2 hb
      go_enter Try.func39, Try.ntmps39
      go_wp2_with (go_at_call 26; refine (refvalid_any _ _).mono ?_; rintro e w' ⟨rfl, rfl⟩)
      go_ret2
      exact ⟨rfl, rfl⟩
  · have ha' : vld a = false := by simpa using ha
    have e1 : mulC a b = 0 := by simp [mulC, ha']
    have e2 : mulE a b = 90 := by simp [mulE, ha']
    rw [e1, e2]
    clear e1 e2 ha
    go_enter Try.func39, Try.ntmps39
    go_wp2_with (go_at_call 26; refine (refvalid_any _ _).mono ?_; rintro e w' ⟨rfl, rfl⟩)
    go_ret2
    exact ⟨rfl, rfl⟩

set_option maxHeartbeats 400000 in
theorem exponent_any (n : Int) (w : World) :
    Calls Try.prog 59 #[.int .i64 n] w fun e w' => e = .returned (.int .i64 (n % 1073741789)) ∧ w = w' := by
  have t1 := Int.tmod_lt_of_pos n (show (0 : Int) < 1073741789 by omega)
  by_cases h : n.tmod 1073741789 < 0
  · have e1 : n.tmod 1073741789 + 1073741789 = n % 1073741789 := tmod_neg (by omega) h
    have t2 : -1073741789 < n.tmod 1073741789 := Int.lt_tmod_of_pos n (by omega)
    have H := Lib.hid e1
    clear e1
    go_enter Try.func59, Try.ntmps59
    go_wp2
    go_ret
    exact ⟨ret_int H.out, rfl⟩
  · have e1 : n.tmod 1073741789 = n % 1073741789 := tmod_pos (by omega) (by omega)
    have H := Lib.hid e1
    clear e1
    go_enter Try.func59, Try.ntmps59
    go_wp2
    all_goals go_ret
    all_goals exact ⟨ret_int (by first | exact H.out | omega), rfl⟩

set_option maxHeartbeats 400000 in
theorem refpow_any (a n : Int) (w : World) :
    Calls Try.prog 37 #[.int .i64 a, .int .i64 n] w fun e w' => e = .returned (.tuple #[.int .i64 (powC a n), .int .i64 (powE a)]) ∧ w = w' := by
  by_cases ha : vld a = true
  · have l1 := vld_lo ha
    have l2 := vld_hi ha
    have e1 : powC a n = pwr a (n % 1073741789) := by simp [powC, ha]
    have e2 : powE a = 0 := by simp [powE, ha]
    rw [e1, e2]
    clear e1 e2
    have n1 : 0 ≤ n % 1073741789 := by omega
    have n2 : n % 1073741789 < 1073741789 := by omega
    go_enter Try.func37, Try.ntmps37
    go_wp2_with (first | (go_at_call 26; refine (refvalid_any _ _).mono ?_; rintro e w' ⟨rfl, rfl⟩) | (go_at_call 59; refine (exponent_any _ _).mono ?_; rintro e w' ⟨rfl, rfl⟩) | (go_at_call 50; refine (refpower_any _ _ (by omega) (by omega) (by omega) (by omega) _).mono ?_; rintro e w' ⟨rfl, rfl⟩))
    go_ret2
    exact ⟨rfl, rfl⟩
  · have ha' : vld a = false := by simpa using ha
    have e1 : powC a n = 0 := by simp [powC, ha']
    have e2 : powE a = 90 := by simp [powE, ha']
    rw [e1, e2]
    clear e1 e2 ha
    go_enter Try.func37, Try.ntmps37
    go_wp2_with (go_at_call 26; refine (refvalid_any _ _).mono ?_; rintro e w' ⟨rfl, rfl⟩)
    go_ret2
    exact ⟨rfl, rfl⟩
end Go.Proofs.Ytlbnbginippjfaa
