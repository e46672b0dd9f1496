import Derived.Test.YtlbnbginippjfaaValid
import Derived.Test.YtlbnbginippjfaaSeq
namespace Go.Proofs.Ytlbnbginippjfaa
open Go.RowKit Fk

theorem ret_int {a b : Int} (h : a = b) : Ending.returned (.int .i64 a) = .returned (.int .i64 b) := by rw [h]
theorem ret_int2 {a b c d : Int} (h : a = c) (h' : b = d) : Ending.returned (.tuple #[.int .i64 a, .int .i64 b]) = .returned (.tuple #[.int .i64 c, .int .i64 d]) := by rw [h, h']

set_option maxHeartbeats 400000 in
theorem mul_any (a b : Int) (w : World) :
    Calls Try.prog 30 #[.int .i64 a, .int .i64 b] w fun e w' => e = .returned (.tuple #[.int .i64 (mulC a b), .int .i64 (mulE a b)]) ∧ w = w' := by
  by_cases ha : vld a = true
  · by_cases hb : vld b = true
    · have l1 := vld_lo ha
      have l2 := vld_hi ha
      have l3 := vld_lo hb
      have l4 := vld_hi hb
      have e1 : mulC a b = a * b % 2147483579 := by simp [mulC, ha, hb]
      have e2 : mulE a b = 0 := by simp [mulE, ha, hb]
      rw [e1, e2]
      clear e1 e2
      have m1 : 0 ≤ a * b := Int.mul_nonneg (by omega) (by omega)
      have m2 : a * b ≤ 2147483579 * 2147483579 := Int.mul_le_mul (by omega) (by omega) (by omega) (by omega)
      go_enter Try.func30, Try.ntmps30
      go_wp2_with (go_at_call 32; refine (valid_any _ _).mono ?_; rintro e w' ⟨rfl, rfl⟩)
      go_ret2
      exact ⟨rfl, rfl⟩
    · have hb' : vld b = false := by simpa using hb
      have e1 : mulC a b = 0 := by simp [mulC, hb']
      have e2 : mulE a b = 90 := by simp [mulE, hb']
      rw [e1, e2]
      clear e1 e2 hb
      go_enter Try.func30, Try.ntmps30
      go_wp2_with (go_at_call 32; refine (valid_any _ _).mono ?_; rintro e w' ⟨rfl, rfl⟩)
      go_ret2
      exact ⟨rfl, rfl⟩
  · have ha' : vld a = false := by simpa using ha
    have e1 : mulC a b = 0 := by simp [mulC, ha']
    have e2 : mulE a b = 90 := by simp [mulE, ha']
    rw [e1, e2]
    clear e1 e2 ha
    go_enter Try.func30, Try.ntmps30
    go_wp2_with (go_at_call 32; refine (valid_any _ _).mono ?_; rintro e w' ⟨rfl, rfl⟩)
    go_ret2
    exact ⟨rfl, rfl⟩

set_option maxHeartbeats 400000 in
theorem element_any (n : Int) (w : World) :
    Calls Try.prog 28 #[.int .i64 n] w fun e w' => e = .returned (.tuple #[.int .i64 (elC n), .int .i64 (elE n)]) ∧ w = w' := by
  by_cases h1 : 1 ≤ n
  · by_cases h2 : n ≤ 1073741789
    · have e2 : elE n = 0 := by simp [elE, h1, h2]
      rw [e2]; clear e2
      by_cases hv : vld n = true
      · have e1 : elC n = n := by simp [elC, h1, h2, hv]
        rw [e1]; clear e1
        go_enter Try.func28, Try.ntmps28
        go_wp2_with (go_at_call 32; refine (valid_any _ _).mono ?_; rintro e w' ⟨rfl, rfl⟩)
        go_ret2
        exact ⟨rfl, rfl⟩
      · have hv' : vld n = false := by simpa using hv
        have e1 : elC n = 2147483579 - n := by simp [elC, h1, h2, hv']
        rw [e1]; clear e1 hv
        go_enter Try.func28, Try.ntmps28
        go_wp2_with (go_at_call 32; refine (valid_any _ _).mono ?_; rintro e w' ⟨rfl, rfl⟩)
        go_ret2
        exact ⟨rfl, rfl⟩
    · have e1 : elC n = 0 := by simp [elC, h2]
      have e2 : elE n = 1 := by simp [elE, h2]
      rw [e1, e2]; clear e1 e2
      go_enter Try.func28, Try.ntmps28
      go_wp2
      go_ret2
      exact ⟨rfl, rfl⟩
  · have e1 : elC n = 0 := by simp [elC, h1]
    have e2 : elE n = 1 := by simp [elE, h1]
    rw [e1, e2]; clear e1 e2
    go_enter Try.func28, Try.ntmps28
    go_wp2
    go_ret2
    exact ⟨rfl, rfl⟩

set_option maxHeartbeats 400000 in
theorem number_any (x : Int) (w : World) :
    Calls Try.prog 49 #[.int .i64 x] w fun e w' => e = .returned (.tuple #[.int .i64 (numC x), .int .i64 (numE x)]) ∧ w = w' := by
  by_cases hv : vld x = true
  · have l1 := vld_lo hv
    have l2 := vld_hi hv
    have e2 : numE x = 0 := by simp [numE, hv]
    by_cases h : x ≤ 1073741789
    · have e1 : numC x = x := by simp [numC, hv, h]
      rw [e1, e2]; clear e1 e2
      go_enter Try.func49, Try.ntmps49
      go_wp2_with (go_at_call 32; refine (valid_any _ _).mono ?_; rintro e w' ⟨rfl, rfl⟩)
      all_goals go_ret2
      all_goals exact ⟨ret_int2 (by omega) rfl, rfl⟩
    · have e1 : numC x = 2147483579 - x := by simp [numC, hv, h]
      rw [e1, e2]; clear e1 e2
      go_enter Try.func49, Try.ntmps49
      go_wp2_with (go_at_call 32; refine (valid_any _ _).mono ?_; rintro e w' ⟨rfl, rfl⟩)
      all_goals go_ret2
      all_goals exact ⟨ret_int2 (by omega) rfl, rfl⟩
  · have hv' : vld x = false := by simpa using hv
    have e1 : numC x = 0 := by simp [numC, hv']
    have e2 : numE x = 90 := by simp [numE, hv']
    rw [e1, e2]; clear e1 e2 hv
    go_enter Try.func49, Try.ntmps49
    go_wp2_with (go_at_call 32; refine (valid_any _ _).mono ?_; rintro e w' ⟨rfl, rfl⟩)
    go_ret2
    exact ⟨rfl, rfl⟩
end Go.Proofs.Ytlbnbginippjfaa
