import Derived.Test.YtlenfjpogmmfhaaRecover
import Derived.Test.YtlenfjpogmmfhaaRef47P
namespace Go.Proofs.Ytlenfjpogmmfhaa
open Go.RowKit Fk

set_option maxHeartbeats 400000 in
theorem rmod_any (n : Int) (w : World) :
    Calls Try.prog 52 #[.int .i64 n] w fun e w' => e = .returned (.int .i64 (n % 1073741789)) ∧ w = w' := by
  have t1 := Int.tmod_lt_of_pos n (show (0 : Int) < 1073741789 by omega)
  by_cases h : n.tmod 1073741789 < 0
  · have e1 : n.tmod 1073741789 + 1073741789 = n % 1073741789 := tmod_neg (by omega) h
    have t2 : -1073741789 < n.tmod 1073741789 := Int.lt_tmod_of_pos n (by omega)
    have H := Lib.hid e1
    clear e1
    go_enter Try.func52, Try.ntmps52
    go_wp2
    go_ret
    exact ⟨ret_int H.out, rfl⟩
  · have e1 : n.tmod 1073741789 = n % 1073741789 := tmod_pos (by omega) (by omega)
    have H := Lib.hid e1
    clear e1
    go_enter Try.func52, Try.ntmps52
    go_wp2
    all_goals go_ret
    all_goals exact ⟨ret_int (by first | exact H.out | omega), rfl⟩

def timesQ (a b : Int) : Int := a % 1073741789 * (b % 1073741789) % 1073741789
theorem timesQ_bd (a b : Int) : 0 ≤ timesQ a b ∧ timesQ a b < 1073741789 := by unfold timesQ; omega
set_option maxHeartbeats 400000 in
theorem rtimes_any (a b : Int) (w : World) :
    Calls Try.prog 50 #[.int .i64 a, .int .i64 b] w fun e w' => e = .returned (.int .i64 (timesQ a b)) ∧ w = w' := by
  unfold timesQ
  have p := mul_smallQ (x := a % 1073741789) (y := b % 1073741789) (by omega) (by omega)
  go_enter Try.func50, Try.ntmps50
  go_wp2_with (go_at_call 52; refine (rmod_any _ _).mono ?_; rintro e w1 ⟨rfl, rfl⟩)
  go_ret
  exact ⟨rfl, rfl⟩

set_option maxHeartbeats 400000 in
theorem rpower_nat (b : Int) (a n : Nat) (hb : b % 1073741789 = (a : Int)) (ha : a < 1073741789) (hn : n < 2147483579) (w : World) :
    Calls Try.prog 56 #[.int .i64 b, .int .i64 n] w fun e w' => e = .returned (.int .i64 ((a ^ n % 1073741789 : Nat) : Int)) ∧ w = w' := by
  go_enter Try.func56, Try.ntmps56
  go_wp2_with (go_at_call 52; refine (rmod_any _ _).mono ?_; rintro e w1 ⟨rfl, rfl⟩)
  go_loopg [0, 1, 5] n (fun k x m c wr => w = wr ∧ ∃ (x' c' : Nat), x = .int .i64 x' ∧ m = .int .i64 k ∧ c = .int .i64 c' ∧ k < 2147483579 ∧ x' < 1073741789 ∧ c' < 1073741789 ∧ PQ a n c' x' k)
  case atStart => exact ⟨rfl, a, 1, rfl, rfl, rfl, hn, ha, by omega, PQ.start a n⟩
  case round =>
    clear hb
    obtain ⟨rfl, x', c', rfl, rfl, rfl, b1, b2, b3, hI⟩ := hrel
    have m1 := mul_smallQ (x := (c' : Int)) (y := (x' : Int)) (by omega) (by omega)
    have m2 := sq_smallQ b2
    by_cases hk : 0 < gk
    · by_cases ho : gk % 2 = 1
      · have hI2 := PQ.odd hI ho
        have t1 : ((gk : Int) % 2 == 1) = true := by simp; omega
        clear hI ho
        go_wp2
        go_roundg (gk / 2)
        case measure => omega
        case rel => exact ⟨rfl, x' * x' % 1073741789, c' * x' % 1073741789, by go_num, by go_num, by go_num, by omega, Nat.mod_lt _ (by omega), Nat.mod_lt _ (by omega), hI2⟩
      · have hI2 := PQ.even hI ho
        have t1 : ((gk : Int) % 2 == 1) = false := by simp; omega
        clear hI ho
        go_wp2
        go_roundg (gk / 2)
        case measure => omega
        case rel => exact ⟨rfl, x' * x' % 1073741789, c', by go_num, by go_num, rfl, by omega, Nat.mod_lt _ (by omega), by omega, hI2⟩
    · obtain rfl : gk = 0 := by omega
      have hI2 := PQ.done hI b3
      clear hI
      go_wp2
      go_ret
      exact ⟨ret_int (by rw [hI2]), rfl⟩
theorem rpower_any (b n : Int) (h3 : 0 ≤ n) (h4 : n < 2147483579) (w : World) :
    Calls Try.prog 56 #[.int .i64 b, .int .i64 n] w fun e w' => e = .returned (.int .i64 (pwQ (b % 1073741789) n)) ∧ w = w' := by
  have := rpower_nat b (b % 1073741789).toNat n.toNat (by omega) (by omega) (by omega) w
  rw [Int.toNat_of_nonneg h3] at this
  exact this
def quotQ (a b : Int) : Int := timesQ a (pwQ (b % 1073741789) 1073741787)
set_option maxHeartbeats 400000 in
theorem rquot_any (a b : Int) (w : World) :
    Calls Try.prog 51 #[.int .i64 a, .int .i64 b] w fun e w' => e = .returned (.int .i64 (quotQ a b)) ∧ w = w' := by
  go_enter Try.func51, Try.ntmps51
  go_wp2_with (first | (go_at_call 56; refine (rpower_any _ _ (by omega) (by omega) _).mono ?_; rintro e w1 ⟨rfl, rfl⟩) | (go_at_call 50; refine (rtimes_any _ _ _).mono ?_; rintro e w1 ⟨rfl, rfl⟩))
  go_ret
  exact ⟨rfl, rfl⟩
end Go.Proofs.Ytlenfjpogmmfhaa
