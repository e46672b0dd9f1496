import Derived.Test.YtlenfjpogmmfhaaSane09
import Derived.Test.YtlenfjpogmmfhaaAlg
import Derived.Test.YtlenfjpogmmfhaaPost
namespace Go.Proofs.Ytlenfjpogmmfhaa
open Go.RowKit Fk

/-- the element of any number -/
def elV (n : Int) : Int := elC (n % 1073741789 + 1)
theorem vld_elV (n : Int) : vld (elV n) = true := vld_el (by omega) (by omega)

set_option maxHeartbeats 400000 in
theorem law_element (n : Int) (w : World) :
    Calls Try.prog 20 #[.int .i64 n] w fun e w' => e = .returned (.int .i64 (elV n)) ∧ w = w' := by
  have t1 := Int.tmod_lt_of_pos n (show (0 : Int) < 1073741789 by omega)
  have t2 : -1073741789 < n.tmod 1073741789 := Int.lt_tmod_of_pos n (by omega)
  unfold elV
  by_cases h : n.tmod 1073741789 < 0
  · have H := Lib.hid (tmod_neg (show (0 : Int) < 1073741789 by omega) h)
    go_enter Try.func20, Try.ntmps20
    go_wp2_with (go_at_call 23; refine (element_any _ _).mono ?_; rintro e w1 ⟨rfl, rfl⟩)
    go_ret
    exact ⟨ret_int (by rw [H.out]), rfl⟩
  · have H := Lib.hid (tmod_pos (show (0 : Int) < 1073741789 by omega) (show 0 ≤ n.tmod 1073741789 by omega))
    go_enter Try.func20, Try.ntmps20
    go_wp2_with (go_at_call 23; refine (element_any _ _).mono ?_; rintro e w1 ⟨rfl, rfl⟩)
    all_goals go_ret
    all_goals exact ⟨ret_int (by first | rw [H.out] | (exfalso; omega)), rfl⟩

theorem mulC_one_left {a : Int} (h : vld a = true) : mulC 1 a = a := one_mul' h

set_option maxHeartbeats 800000 in
theorem law_mul2 (a b : Int) (w : World) (g : Nat) (hg : g = w.heap.size) :
    Calls Try.prog 21 #[.slice (some ⟨g, 0, none⟩) 2 2] (w.alloc (.cells #[.int .i64 a, .int .i64 b] 3)) fun e w' => e = .returned (.int .i64 (mulC a b)) ∧ w.alloc (.cells #[.int .i64 a, .int .i64 b] 3) = w' := by
  subst hg
  have c0 : (w.alloc (.cells #[.int .i64 a, .int .i64 b] 3)).cell? ⟨w.heap.size, 0, none⟩ = some (.int .i64 a) := by simp
  have c1 : (w.alloc (.cells #[.int .i64 a, .int .i64 b] 3)).cell? ⟨w.heap.size, 1, none⟩ = some (.int .i64 b) := by simp
  by_cases ha : vld a = true
  · have q1 : mulE 1 a = 0 := by simp [mulE, ha, vld_1]
    have q2 : mulC 1 a = a := one_mul' ha
    by_cases hb : vld b = true
    · have q3 : mulE a b = 0 := by simp [mulE, ha, hb]
      go_enter Try.func21, Try.ntmps21
      go_wp2
      refine wp_loop_rounds 3 ?_
      rw [rounds_succ]
      go_wp2_with (go_at_call 14; refine (mul_any _ _ _).mono ?_; rintro e w1 ⟨rfl, rfl⟩)
      rw [rounds_succ]
      go_wp2_with (go_at_call 14; refine (mul_any _ _ _).mono ?_; rintro e w1 ⟨rfl, rfl⟩)
      rw [rounds_succ]
      go_wp2
      go_ret
      exact ⟨rfl, rfl⟩
    · have hb' : vld b = false := by simpa using hb
      have q3 : mulE a b = 90 := by simp [mulE, hb']
      have q4 : mulC a b = 0 := by simp [mulC, hb']
      rw [q4]
      go_enter Try.func21, Try.ntmps21
      go_wp2
      refine wp_loop_rounds 3 ?_
      rw [rounds_succ]
      go_wp2_with (go_at_call 14; refine (mul_any _ _ _).mono ?_; rintro e w1 ⟨rfl, rfl⟩)
      rw [rounds_succ]
      go_wp2_with (go_at_call 14; refine (mul_any _ _ _).mono ?_; rintro e w1 ⟨rfl, rfl⟩)
      go_ret
      exact ⟨rfl, rfl⟩
  · have ha' : vld a = false := by simpa using ha
    have q1 : mulE 1 a = 90 := by simp [mulE, ha']
    have q4 : mulC a b = 0 := by simp [mulC, ha']
    rw [q4]
    go_enter Try.func21, Try.ntmps21
    go_wp2
    refine wp_loop_rounds 3 ?_
    rw [rounds_succ]
    go_wp2_with (go_at_call 14; refine (mul_any _ _ _).mono ?_; rintro e w1 ⟨rfl, rfl⟩)
    go_ret
    exact ⟨rfl, rfl⟩

theorem law_mulB (a b : Int) (w : World) (g : Nat) (hg : g = w.heap.size) :
    Calls Try.prog 21 #[.slice (some ⟨g, 0, none⟩) 2 2] (w.alloc (.cells #[.int .i64 a, .int .i64 b] 3)) fun e w' => e = .returned (.int .i64 (mulC a b)) ∧ Below w.heap.size w w' :=
  (law_mul2 a b w g hg).mono fun _ _ ⟨he, hw⟩ => ⟨he, hw ▸ (Below.refl _ _).alloc (Nat.le_refl _) _⟩

set_option maxHeartbeats 400000 in
theorem law_pow (a n : Int) (w : World) :
    Calls Try.prog 22 #[.int .i64 a, .int .i64 n] w fun e w' => e = .returned (.int .i64 (powC a n)) ∧ Below w.heap.size w w' := by
  by_cases ha : vld a = true
  · have q1 : powE a = 0 := by simp [powE, ha]
    have hB : Below w.heap.size w w := Below.refl _ _
    go_enter Try.func22, Try.ntmps22
    go_wp2_with (go_at_call 16; refine (pow_any _ _ _).mono ?_; rintro e w1 ⟨rfl, hb⟩; replace hB := hB.trans (hb.mono hB.size); clear hb)
    go_ret
    exact ⟨rfl, hB⟩
  · have ha' : vld a = false := by simpa using ha
    have q1 : powE a = 90 := by simp [powE, ha']
    have q2 : powC a n = 0 := by simp [powC, ha']
    rw [q2]
    have hB : Below w.heap.size w w := Below.refl _ _
    go_enter Try.func22, Try.ntmps22
    go_wp2_with (go_at_call 16; refine (pow_any _ _ _).mono ?_; rintro e w1 ⟨rfl, hb⟩; replace hB := hB.trans (hb.mono hB.size); clear hb)
    go_ret
    exact ⟨rfl, hB⟩
end Go.Proofs.Ytlenfjpogmmfhaa
