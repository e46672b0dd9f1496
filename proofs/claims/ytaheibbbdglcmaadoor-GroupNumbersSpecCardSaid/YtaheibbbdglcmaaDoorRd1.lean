import Derived.Test.YtaheibbbdglcmaaDoorDg3
import Derived.Deep.QuietTactic
import Derived.BigQuiet
namespace Go.Proofs.YtaheibbbdglcmaaDoor
open Go.RowKit Fk Sha
/-! The reference's small functions of the hash. -/
theorem ret_u32s {a b : Int} (h : a = b) : Ending.returned (.int .u32 a) = .returned (.int .u32 b) := by rw [h]
theorem ror_2 (x : W) (w : World) :
    Calls Tryd.prog 94 #[u x, .int .i64 2] w fun e w' => e = .returned (u (rr x 2)) ∧ ∃ m, w' = w.drewN m := by
  unfold u
  have hx := (un_bd x).1
  have h2 := shr_n x 2
  have h3 := shl_n x (32 - 2)
  rw [show ((2 : Int) ^ 2) = 4 by decide] at h2
  rw [show ((2 : Int) ^ (32 - 2)) = 1073741824 by decide] at h3
  have h4 := or_n (x >>> 2) (x <<< (32 - 2))
  go_enter Tryd.func94, Tryd.ntmps94
  go_wp2
  go_quiet (fail)
  go_wp2
  go_ret
  exact ⟨ret_u32s (by unfold rr; rfl), _, rfl⟩
theorem ror_6 (x : W) (w : World) :
    Calls Tryd.prog 94 #[u x, .int .i64 6] w fun e w' => e = .returned (u (rr x 6)) ∧ ∃ m, w' = w.drewN m := by
  unfold u
  have hx := (un_bd x).1
  have h2 := shr_n x 6
  have h3 := shl_n x (32 - 6)
  rw [show ((2 : Int) ^ 6) = 64 by decide] at h2
  rw [show ((2 : Int) ^ (32 - 6)) = 67108864 by decide] at h3
  have h4 := or_n (x >>> 6) (x <<< (32 - 6))
  go_enter Tryd.func94, Tryd.ntmps94
  go_wp2
  go_quiet (fail)
  go_wp2
  go_ret
  exact ⟨ret_u32s (by unfold rr; rfl), _, rfl⟩
theorem ror_7 (x : W) (w : World) :
    Calls Tryd.prog 94 #[u x, .int .i64 7] w fun e w' => e = .returned (u (rr x 7)) ∧ ∃ m, w' = w.drewN m := by
  unfold u
  have hx := (un_bd x).1
  have h2 := shr_n x 7
  have h3 := shl_n x (32 - 7)
  rw [show ((2 : Int) ^ 7) = 128 by decide] at h2
  rw [show ((2 : Int) ^ (32 - 7)) = 33554432 by decide] at h3
  have h4 := or_n (x >>> 7) (x <<< (32 - 7))
  go_enter Tryd.func94, Tryd.ntmps94
  go_wp2
  go_quiet (fail)
  go_wp2
  go_ret
  exact ⟨ret_u32s (by unfold rr; rfl), _, rfl⟩
theorem ror_11 (x : W) (w : World) :
    Calls Tryd.prog 94 #[u x, .int .i64 11] w fun e w' => e = .returned (u (rr x 11)) ∧ ∃ m, w' = w.drewN m := by
  unfold u
  have hx := (un_bd x).1
  have h2 := shr_n x 11
  have h3 := shl_n x (32 - 11)
  rw [show ((2 : Int) ^ 11) = 2048 by decide] at h2
  rw [show ((2 : Int) ^ (32 - 11)) = 2097152 by decide] at h3
  have h4 := or_n (x >>> 11) (x <<< (32 - 11))
  go_enter Tryd.func94, Tryd.ntmps94
  go_wp2
  go_quiet (fail)
  go_wp2
  go_ret
  exact ⟨ret_u32s (by unfold rr; rfl), _, rfl⟩
theorem ror_13 (x : W) (w : World) :
    Calls Tryd.prog 94 #[u x, .int .i64 13] w fun e w' => e = .returned (u (rr x 13)) ∧ ∃ m, w' = w.drewN m := by
  unfold u
  have hx := (un_bd x).1
  have h2 := shr_n x 13
  have h3 := shl_n x (32 - 13)
  rw [show ((2 : Int) ^ 13) = 8192 by decide] at h2
  rw [show ((2 : Int) ^ (32 - 13)) = 524288 by decide] at h3
  have h4 := or_n (x >>> 13) (x <<< (32 - 13))
  go_enter Tryd.func94, Tryd.ntmps94
  go_wp2
  go_quiet (fail)
  go_wp2
  go_ret
  exact ⟨ret_u32s (by unfold rr; rfl), _, rfl⟩
theorem ror_17 (x : W) (w : World) :
    Calls Tryd.prog 94 #[u x, .int .i64 17] w fun e w' => e = .returned (u (rr x 17)) ∧ ∃ m, w' = w.drewN m := by
  unfold u
  have hx := (un_bd x).1
  have h2 := shr_n x 17
  have h3 := shl_n x (32 - 17)
  rw [show ((2 : Int) ^ 17) = 131072 by decide] at h2
  rw [show ((2 : Int) ^ (32 - 17)) = 32768 by decide] at h3
  have h4 := or_n (x >>> 17) (x <<< (32 - 17))
  go_enter Tryd.func94, Tryd.ntmps94
  go_wp2
  go_quiet (fail)
  go_wp2
  go_ret
  exact ⟨ret_u32s (by unfold rr; rfl), _, rfl⟩
theorem ror_18 (x : W) (w : World) :
    Calls Tryd.prog 94 #[u x, .int .i64 18] w fun e w' => e = .returned (u (rr x 18)) ∧ ∃ m, w' = w.drewN m := by
  unfold u
  have hx := (un_bd x).1
  have h2 := shr_n x 18
  have h3 := shl_n x (32 - 18)
  rw [show ((2 : Int) ^ 18) = 262144 by decide] at h2
  rw [show ((2 : Int) ^ (32 - 18)) = 16384 by decide] at h3
  have h4 := or_n (x >>> 18) (x <<< (32 - 18))
  go_enter Tryd.func94, Tryd.ntmps94
  go_wp2
  go_quiet (fail)
  go_wp2
  go_ret
  exact ⟨ret_u32s (by unfold rr; rfl), _, rfl⟩
theorem ror_19 (x : W) (w : World) :
    Calls Tryd.prog 94 #[u x, .int .i64 19] w fun e w' => e = .returned (u (rr x 19)) ∧ ∃ m, w' = w.drewN m := by
  unfold u
  have hx := (un_bd x).1
  have h2 := shr_n x 19
  have h3 := shl_n x (32 - 19)
  rw [show ((2 : Int) ^ 19) = 524288 by decide] at h2
  rw [show ((2 : Int) ^ (32 - 19)) = 8192 by decide] at h3
  have h4 := or_n (x >>> 19) (x <<< (32 - 19))
  go_enter Tryd.func94, Tryd.ntmps94
  go_wp2
  go_quiet (fail)
  go_wp2
  go_ret
  exact ⟨ret_u32s (by unfold rr; rfl), _, rfl⟩
theorem ror_22 (x : W) (w : World) :
    Calls Tryd.prog 94 #[u x, .int .i64 22] w fun e w' => e = .returned (u (rr x 22)) ∧ ∃ m, w' = w.drewN m := by
  unfold u
  have hx := (un_bd x).1
  have h2 := shr_n x 22
  have h3 := shl_n x (32 - 22)
  rw [show ((2 : Int) ^ 22) = 4194304 by decide] at h2
  rw [show ((2 : Int) ^ (32 - 22)) = 1024 by decide] at h3
  have h4 := or_n (x >>> 22) (x <<< (32 - 22))
  go_enter Tryd.func94, Tryd.ntmps94
  go_wp2
  go_quiet (fail)
  go_wp2
  go_ret
  exact ⟨ret_u32s (by unfold rr; rfl), _, rfl⟩
theorem ror_25 (x : W) (w : World) :
    Calls Tryd.prog 94 #[u x, .int .i64 25] w fun e w' => e = .returned (u (rr x 25)) ∧ ∃ m, w' = w.drewN m := by
  unfold u
  have hx := (un_bd x).1
  have h2 := shr_n x 25
  have h3 := shl_n x (32 - 25)
  rw [show ((2 : Int) ^ 25) = 33554432 by decide] at h2
  rw [show ((2 : Int) ^ (32 - 25)) = 128 by decide] at h3
  have h4 := or_n (x >>> 25) (x <<< (32 - 25))
  go_enter Tryd.func94, Tryd.ntmps94
  go_wp2
  go_quiet (fail)
  go_wp2
  go_ret
  exact ⟨ret_u32s (by unfold rr; rfl), _, rfl⟩
end Go.Proofs.YtaheibbbdglcmaaDoor
