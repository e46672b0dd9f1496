import Derived.Test.YtlbnbginippjfaaElP
import Derived.Test.YtlbnbginippjfaaPow
import Derived.Test.YtlbnbginippjfaaSl
import Derived.Deep.RegionHeld3
namespace Go.Proofs.Ytlbnbginippjfaa
open Go.RowKit Fk

set_option maxHeartbeats 400000 in
theorem secret_any (n : Int) (w : World) :
    Calls Try.prog 35 #[.int .i64 n] w fun e w' => e = .returned (.bool (secB n)) ∧ w = w' := by
  unfold secB
  by_cases h1 : 1 ≤ n
  · go_enter Try.func35, Try.ntmps35
    go_wp2
    go_ret
    exact ⟨by simp [h1], rfl⟩
  · have h2 : n < 1 := by omega
    have h3 : decide (1 ≤ n) = false := by simpa using h1
    clear h1
    go_enter Try.func35, Try.ntmps35
    go_wp2
    go_ret
    exact ⟨by simp [h3], rfl⟩

set_option maxHeartbeats 400000 in
theorem public_any (n : Int) (w : World) :
    Calls Try.prog 12 #[.int .i64 n] w fun e w' => e = .returned (.tuple #[.int .i64 (pubC n), .int .i64 (pubE n)]) ∧ Below w.heap.size w w' := by
  have hB : Below w.heap.size w w := Below.refl _ _
  cases hs : secB n with
  | true =>
    have e1 : pubC n = powC 4 n := by simp [pubC, hs]
    have e2 : pubE n = 0 := by simp [pubE, hs]
    rw [e1, e2]
    clear e1 e2
    have hp := fun w => pow_any 4 n w
    rw [powE_4] at hp
    generalize powC 4 n = p at *
    have HP := Lib.hid hp
    clear hp
    go_enter Try.func12, Try.ntmps12
    go_wp2_with (first | (go_at_call 35; refine (secret_any _ _).mono ?_; rintro e w1 ⟨rfl, rfl⟩) | (go_at_call 29; refine (HP.out _).mono ?_; rintro e w1 ⟨rfl, hb⟩))
    go_ret2
    exact ⟨rfl, hb⟩
  | false =>
    have e1 : pubC n = 0 := by simp [pubC, hs]
    have e2 : pubE n = 110 := by simp [pubE, hs]
    rw [e1, e2]
    clear e1 e2
    go_enter Try.func12, Try.ntmps12
    go_wp2_with (go_at_call 35; refine (secret_any _ _).mono ?_; rintro e w1 ⟨rfl, rfl⟩)
    go_ret2
    exact ⟨rfl, hB⟩

theorem mul_sm {x y : Int} (h : 0 ≤ x ∧ x < 2147483579) (h' : 0 ≤ y ∧ y < 2147483579) : 0 ≤ x * y ∧ x * y ≤ 2147483579 * 2147483579 :=
  ⟨Int.mul_nonneg (by omega) (by omega), Int.mul_le_mul (by omega) (by omega) (by omega) (by omega)⟩

set_option maxHeartbeats 400000 in
theorem times_two (x y : Int) (hx : 0 ≤ x ∧ x < 2147483579) (hy : 0 ≤ y ∧ y < 2147483579) (b : Nat) (w : World) (h0 : w.cell? ⟨b, 0, none⟩ = some (.int .i64 x)) (h1 : w.cell? ⟨b, 1, none⟩ = some (.int .i64 y)) :
    Calls Try.prog 46 #[.slice (some ⟨b, 0, none⟩) 2 2] w fun e w' => e = .returned (.int .i64 (x * y % 2147483579)) ∧ w = w' := by
  have m := mul_sm hx hy
  have e1 : x % 2147483579 = x := Int.emod_eq_of_lt hx.1 hx.2
  obtain ⟨hx1, hx2⟩ := hx
  obtain ⟨hy1, hy2⟩ := hy
  go_enter Try.func46, Try.ntmps46
  go_wp2
  refine wp_loop_rounds 3 ?_
  rw [rounds_succ]
  go_wp2
  rw [rounds_succ]
  go_wp2
  rw [rounds_succ]
  go_wp2
  go_ret
  exact ⟨rfl, rfl⟩
set_option maxHeartbeats 400000 in
theorem epow_any (a n : Int) (w : World) :
    Calls Try.prog 47 #[.int .i64 a, .int .i64 n] w fun e w' => e = .returned (.int .i64 (powC a n)) ∧ Below w.heap.size w w' := by
  generalize hp : powC a n = p
  generalize hq : powE a = q
  have hP := fun w => pow_any a n w
  rw [hp, hq] at hP
  have HP := Lib.hid hP
  clear hP hp hq
  go_enter Try.func47, Try.ntmps47
  go_wp2_with (go_at_call 29; refine (HP.out _).mono ?_; rintro e w1 ⟨rfl, hb⟩)
  go_ret
  exact ⟨rfl, hb⟩
end Go.Proofs.Ytlbnbginippjfaa
