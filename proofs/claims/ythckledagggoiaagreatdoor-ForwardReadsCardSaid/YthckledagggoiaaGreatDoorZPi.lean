import Derived.Test.YthckledagggoiaaGreatDoorZPh
import Derived.Deep.QuietTactic
import Derived.BigQuiet
import Derived.Deep.Cut
import Derived.Great.Walk
import Derived.IntWalk
namespace Go.Proofs.YthckledagggoiaaGreatDoor
open Go.RowKit Fk Sha
/-! The reference's small functions of the hash. -/
end Go.Proofs.YthckledagggoiaaGreatDoor

namespace Go.Proofs.YthckledagggoiaaGreatDoor
open Go.RowKit Fk Sha
/-! The reference's words and numbers. -/
end Go.Proofs.YthckledagggoiaaGreatDoor

set_option linter.unusedSimpArgs false
namespace Go.Proofs.YthckledagggoiaaGreatDoor
open Go.RowKit Fk Sha
/-! The reference's block. -/
end Go.Proofs.YthckledagggoiaaGreatDoor

namespace Go.Proofs.YthckledagggoiaaGreatDoor
open Go.RowKit Fk Sha
/-! The reference's end of the bytes. -/
end Go.Proofs.YthckledagggoiaaGreatDoor

namespace Go.Proofs.YthckledagggoiaaGreatDoor
set_option linter.unusedSimpArgs false
open Go.RowKit Fk Sha
/-! The reference's hash of bytes. -/
end Go.Proofs.YthckledagggoiaaGreatDoor

namespace Go.Proofs.YthckledagggoiaaGreatDoor
open Go.RowKit Fk Sha
/-! The reference's hashes under a tag, and numbers from hashes. -/
end Go.Proofs.YthckledagggoiaaGreatDoor

namespace Go.Proofs.YthckledagggoiaaGreatDoor
open Go.RowKit Fk

set_option maxHeartbeats 400000 in
theorem mul_any (a b : Int) (w : World) :
    Calls Tryz.prog 114 #[.int .i64 a, .int .i64 b] w fun e w' => e = .returned (.tuple #[.int .i64 (mulC a b), .int .i64 (mulE a b)]) ∧ w = w' := by
  by_cases ha : vld a = true
  · by_cases hb : vld b = true
    · have l1 := vld_lo ha
      have l2 := vld_hi ha
      have l3 := vld_lo hb
      have l4 := vld_hi hb
      have e1 : mulC a b = a * b % 2147483579 := by simp [mulC, ha, hb]
      have e2 : mulE a b = 0 := by simp [mulE, ha, hb]
      rw [e1, e2]
      clear e1 e2
      have m1 : 0 ≤ a * b := Int.mul_nonneg (by omega) (by omega)
      have m2 : a * b ≤ 2147483579 * 2147483579 := Int.mul_le_mul (by omega) (by omega) (by omega) (by omega)
      go_enter Tryz.func114, Tryz.ntmps114
      go_wp2_with (go_at_call 59; refine (valid_any _ _).mono ?_; rintro e w' ⟨rfl, rfl⟩)
      go_ret2
      exact ⟨rfl, rfl⟩
    · have hb' : vld b = false := by simpa using hb
      have e1 : mulC a b = 0 := by simp [mulC, hb']
      have e2 : mulE a b = 90 := by simp [mulE, hb']
      rw [e1, e2]
      clear e1 e2 hb
      go_enter Tryz.func114, Tryz.ntmps114
      go_wp2_with (go_at_call 59; refine (valid_any _ _).mono ?_; rintro e w' ⟨rfl, rfl⟩)
      go_ret2
      exact ⟨rfl, rfl⟩
  · have ha' : vld a = false := by simpa using ha
    have e1 : mulC a b = 0 := by simp [mulC, ha']
    have e2 : mulE a b = 90 := by simp [mulE, ha']
    rw [e1, e2]
    clear e1 e2 ha
    go_enter Tryz.func114, Tryz.ntmps114
    go_wp2_with (go_at_call 59; refine (valid_any _ _).mono ?_; rintro e w' ⟨rfl, rfl⟩)
    go_ret2
    exact ⟨rfl, rfl⟩

end Go.Proofs.YthckledagggoiaaGreatDoor

namespace Go.Proofs.YthckledagggoiaaGreatDoor
open Go.RowKit Fk

end Go.Proofs.YthckledagggoiaaGreatDoor

namespace Go.Proofs.YthckledagggoiaaGreatDoor
open Go.RowKit Fk

end Go.Proofs.YthckledagggoiaaGreatDoor

namespace Go.Proofs.YthckledagggoiaaGreatDoor
open Go.RowKit Fk Sha
/-! The reference's numbers. -/
end Go.Proofs.YthckledagggoiaaGreatDoor
