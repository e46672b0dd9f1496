import Derived.Test.YtlbnbginippjfaaGroup
import Derived.Test.YtlbnbginippjfaaRecP
import Derived.Deep.LoopGhost
namespace Go.Proofs.Ytlbnbginippjfaa
open Go.RowKit Fk
/-! The law's inverse. -/
theorem sq_smI {x : Nat} (h : x < 1073741789) : 0 ≤ (x : Int) * x ∧ (x : Int) * x ≤ 1073741789 * 1073741789 := by
  have m2 : x * x ≤ 1073741789 * 1073741789 := Nat.mul_le_mul (by omega) (by omega)
  have m4 : (x : Int) * x = ((x * x : Nat) : Int) := by simp
  omega
theorem mul_smI {x y : Int} (h : 0 ≤ x ∧ x < 1073741789) (h' : 0 ≤ y ∧ y < 1073741789) : 0 ≤ x * y ∧ x * y ≤ 1073741789 * 1073741789 :=
  ⟨Int.mul_nonneg (by omega) (by omega), Int.mul_le_mul (by omega) (by omega) (by omega) (by omega)⟩
theorem rem_twice (r : Int) : (-1073741789 < r.tmod 1073741789 ∧ r.tmod 1073741789 < 1073741789) ∧ (r.tmod 1073741789 + 1073741789) % 1073741789 = r % 1073741789 := by
  have t1 := Int.tmod_lt_of_pos r (show (0 : Int) < 1073741789 by omega)
  have t2 : -1073741789 < r.tmod 1073741789 := Int.lt_tmod_of_pos r (by omega)
  refine ⟨⟨t2, t1⟩, ?_⟩
  by_cases h : r.tmod 1073741789 < 0
  · rw [tmod_neg (by omega) h]; omega
  · rw [tmod_pos (by omega) (by omega)]; omega
theorem nat_small {x : Nat} (h : x < 1073741789) (r : Int) (e : r % 1073741789 = (x : Int)) : (r % 1073741789).toNat = x := by omega
set_option maxHeartbeats 400000 in
theorem inverse_any (r : Int) (w : World) :
    Calls Try.prog 31 #[.int .i64 r] w fun e w' => e = .returned (.int .i64 (((r % 1073741789).toNat ^ 1073741787 % 1073741789 : Nat) : Int)) ∧ w = w' := by
  obtain ⟨⟨t1, t2⟩, t3⟩ := rem_twice r
  obtain ⟨a, hr, ha⟩ : ∃ a : Nat, r % 1073741789 = (a : Int) ∧ a < 1073741789 := ⟨(r % 1073741789).toNat, by omega, by omega⟩
  rw [nat_small ha r hr]
  rw [hr] at t3
  clear hr
  obtain ⟨n, hn⟩ : ∃ n : Nat, 1073741787 = n := ⟨_, rfl⟩
  rw [hn]
  have hn' : (1073741787 : Int) = (n : Int) := by omega
  go_enter Try.func31, Try.ntmps31
  go_wp2_with fail
  go_loopg [0, 3, 4] n (fun k x c m wr => w = wr ∧ ∃ (x' c' : Nat), x = .int .i64 x' ∧ m = .int .i64 k ∧ c = .int .i64 c' ∧ k < 2147483579 ∧ x' < 1073741789 ∧ c' < 1073741789 ∧ PQ a n c' x' k)
  case atStart => exact ⟨rfl, a, 1, by rw [t3], by rw [hn'], rfl, by omega, ha, by omega, PQ.start a n⟩
  case round =>
    clear hn hn' t1 t2 t3
    obtain ⟨rfl, x', c', rfl, rfl, rfl, b1, b2, b3, hI⟩ := hrel
    have m1 := mul_smI (x := (c' : Int)) (y := (x' : Int)) (by omega) (by omega)
    have m2 := sq_smI b2
    by_cases hk : 0 < gk
    · by_cases ho : gk % 2 = 1
      · have hI2 := PQ.odd hI ho
        have t1 : ((gk : Int) % 2 == 1) = true := by simp; omega
        clear hI ho
        go_wp2
        go_roundg (gk / 2)
        case measure => omega
        case rel => exact ⟨rfl, x' * x' % 1073741789, c' * x' % 1073741789, by go_num, by go_num, by go_num, by omega, Nat.mod_lt _ (by omega), Nat.mod_lt _ (by omega), hI2⟩
      · have hI2 := PQ.even hI ho
        have t1 : ((gk : Int) % 2 == 1) = false := by simp; omega
        clear hI ho
        go_wp2
        go_roundg (gk / 2)
        case measure => omega
        case rel => exact ⟨rfl, x' * x' % 1073741789, c', by go_num, by go_num, rfl, by omega, Nat.mod_lt _ (by omega), by omega, hI2⟩
    · obtain rfl : gk = 0 := by omega
      have hI2 := PQ.done hI b3
      clear hI
      go_wp2
      go_ret
      exact ⟨ret_int (by rw [hI2]), rfl⟩
end Go.Proofs.Ytlbnbginippjfaa
