import Derived.Test.YtaheibbbdglcmaaDoorShaB
import Derived.Test.YtaheibbbdglcmaaDoorSl
import Derived.Test.YtaheibbbdglcmaaDoorChecked
import Derived.WalkKit
import Derived.Lib.Hide
import Derived.Deep.LoopGhost
import Derived.Outline
namespace Go.Proofs.YtaheibbbdglcmaaDoor
open Go.RowKit Fk Sha
/-! The small functions of the hash: turning a word round. -/
theorem ret_u32 {a b : Int} (h : a = b) : Ending.returned (.int .u32 a) = .returned (.int .u32 b) := by rw [h]
theorem rr_lit2 (x : W) : bits .or .u32 (IntKind.u32.wrap (un x * (1073741824 : Int))) (un x / (4 : Int)) = un (rr x 2) := by
  have h := rr_n x 2
  rw [show ((2 : Int) ^ (32 - 2)) = 1073741824 by decide, show ((2 : Int) ^ 2) = 4 by decide] at h
  exact h
theorem shr_lit2 (x : W) : un x / (4 : Int) = un (x >>> 2) := by
  have h := shr_n x 2
  rw [show ((2 : Int) ^ 2) = 4 by decide] at h
  exact h
theorem rr_lit3 (x : W) : bits .or .u32 (IntKind.u32.wrap (un x * (536870912 : Int))) (un x / (8 : Int)) = un (rr x 3) := by
  have h := rr_n x 3
  rw [show ((2 : Int) ^ (32 - 3)) = 536870912 by decide, show ((2 : Int) ^ 3) = 8 by decide] at h
  exact h
theorem shr_lit3 (x : W) : un x / (8 : Int) = un (x >>> 3) := by
  have h := shr_n x 3
  rw [show ((2 : Int) ^ 3) = 8 by decide] at h
  exact h
theorem rr_lit6 (x : W) : bits .or .u32 (IntKind.u32.wrap (un x * (67108864 : Int))) (un x / (64 : Int)) = un (rr x 6) := by
  have h := rr_n x 6
  rw [show ((2 : Int) ^ (32 - 6)) = 67108864 by decide, show ((2 : Int) ^ 6) = 64 by decide] at h
  exact h
theorem shr_lit6 (x : W) : un x / (64 : Int) = un (x >>> 6) := by
  have h := shr_n x 6
  rw [show ((2 : Int) ^ 6) = 64 by decide] at h
  exact h
theorem rr_lit7 (x : W) : bits .or .u32 (IntKind.u32.wrap (un x * (33554432 : Int))) (un x / (128 : Int)) = un (rr x 7) := by
  have h := rr_n x 7
  rw [show ((2 : Int) ^ (32 - 7)) = 33554432 by decide, show ((2 : Int) ^ 7) = 128 by decide] at h
  exact h
theorem shr_lit7 (x : W) : un x / (128 : Int) = un (x >>> 7) := by
  have h := shr_n x 7
  rw [show ((2 : Int) ^ 7) = 128 by decide] at h
  exact h
theorem rr_lit10 (x : W) : bits .or .u32 (IntKind.u32.wrap (un x * (4194304 : Int))) (un x / (1024 : Int)) = un (rr x 10) := by
  have h := rr_n x 10
  rw [show ((2 : Int) ^ (32 - 10)) = 4194304 by decide, show ((2 : Int) ^ 10) = 1024 by decide] at h
  exact h
theorem shr_lit10 (x : W) : un x / (1024 : Int) = un (x >>> 10) := by
  have h := shr_n x 10
  rw [show ((2 : Int) ^ 10) = 1024 by decide] at h
  exact h
theorem rr_lit11 (x : W) : bits .or .u32 (IntKind.u32.wrap (un x * (2097152 : Int))) (un x / (2048 : Int)) = un (rr x 11) := by
  have h := rr_n x 11
  rw [show ((2 : Int) ^ (32 - 11)) = 2097152 by decide, show ((2 : Int) ^ 11) = 2048 by decide] at h
  exact h
theorem shr_lit11 (x : W) : un x / (2048 : Int) = un (x >>> 11) := by
  have h := shr_n x 11
  rw [show ((2 : Int) ^ 11) = 2048 by decide] at h
  exact h
theorem rr_lit13 (x : W) : bits .or .u32 (IntKind.u32.wrap (un x * (524288 : Int))) (un x / (8192 : Int)) = un (rr x 13) := by
  have h := rr_n x 13
  rw [show ((2 : Int) ^ (32 - 13)) = 524288 by decide, show ((2 : Int) ^ 13) = 8192 by decide] at h
  exact h
theorem shr_lit13 (x : W) : un x / (8192 : Int) = un (x >>> 13) := by
  have h := shr_n x 13
  rw [show ((2 : Int) ^ 13) = 8192 by decide] at h
  exact h
theorem rr_lit17 (x : W) : bits .or .u32 (IntKind.u32.wrap (un x * (32768 : Int))) (un x / (131072 : Int)) = un (rr x 17) := by
  have h := rr_n x 17
  rw [show ((2 : Int) ^ (32 - 17)) = 32768 by decide, show ((2 : Int) ^ 17) = 131072 by decide] at h
  exact h
theorem shr_lit17 (x : W) : un x / (131072 : Int) = un (x >>> 17) := by
  have h := shr_n x 17
  rw [show ((2 : Int) ^ 17) = 131072 by decide] at h
  exact h
theorem rr_lit18 (x : W) : bits .or .u32 (IntKind.u32.wrap (un x * (16384 : Int))) (un x / (262144 : Int)) = un (rr x 18) := by
  have h := rr_n x 18
  rw [show ((2 : Int) ^ (32 - 18)) = 16384 by decide, show ((2 : Int) ^ 18) = 262144 by decide] at h
  exact h
theorem shr_lit18 (x : W) : un x / (262144 : Int) = un (x >>> 18) := by
  have h := shr_n x 18
  rw [show ((2 : Int) ^ 18) = 262144 by decide] at h
  exact h
theorem rr_lit19 (x : W) : bits .or .u32 (IntKind.u32.wrap (un x * (8192 : Int))) (un x / (524288 : Int)) = un (rr x 19) := by
  have h := rr_n x 19
  rw [show ((2 : Int) ^ (32 - 19)) = 8192 by decide, show ((2 : Int) ^ 19) = 524288 by decide] at h
  exact h
theorem shr_lit19 (x : W) : un x / (524288 : Int) = un (x >>> 19) := by
  have h := shr_n x 19
  rw [show ((2 : Int) ^ 19) = 524288 by decide] at h
  exact h
theorem rr_lit22 (x : W) : bits .or .u32 (IntKind.u32.wrap (un x * (1024 : Int))) (un x / (4194304 : Int)) = un (rr x 22) := by
  have h := rr_n x 22
  rw [show ((2 : Int) ^ (32 - 22)) = 1024 by decide, show ((2 : Int) ^ 22) = 4194304 by decide] at h
  exact h
theorem shr_lit22 (x : W) : un x / (4194304 : Int) = un (x >>> 22) := by
  have h := shr_n x 22
  rw [show ((2 : Int) ^ 22) = 4194304 by decide] at h
  exact h
theorem rr_lit25 (x : W) : bits .or .u32 (IntKind.u32.wrap (un x * (128 : Int))) (un x / (33554432 : Int)) = un (rr x 25) := by
  have h := rr_n x 25
  rw [show ((2 : Int) ^ (32 - 25)) = 128 by decide, show ((2 : Int) ^ 25) = 33554432 by decide] at h
  exact h
theorem shr_lit25 (x : W) : un x / (33554432 : Int) = un (x >>> 25) := by
  have h := shr_n x 25
  rw [show ((2 : Int) ^ 25) = 33554432 by decide] at h
  exact h
theorem rot_2 (x : W) (w : World) :
    Calls Tryd.prog 85 #[u x, .int .i64 (-2)] w fun e w' => e = .returned (u (rr x 2)) ∧ w = w' := by
  unfold u
  have hx := (un_bd x).1
  have e1 : bits BinOp.and IntKind.u64 (IntKind.u64.wrap (-2)) 31 = 30 := by decide +kernel
  go_enter Tryd.func85, Tryd.ntmps85
  go_wp2
  go_ret
  exact ⟨ret_u32 (rr_lit2 x), rfl⟩
theorem rot_6 (x : W) (w : World) :
    Calls Tryd.prog 85 #[u x, .int .i64 (-6)] w fun e w' => e = .returned (u (rr x 6)) ∧ w = w' := by
  unfold u
  have hx := (un_bd x).1
  have e1 : bits BinOp.and IntKind.u64 (IntKind.u64.wrap (-6)) 31 = 26 := by decide +kernel
  go_enter Tryd.func85, Tryd.ntmps85
  go_wp2
  go_ret
  exact ⟨ret_u32 (rr_lit6 x), rfl⟩
theorem rot_7 (x : W) (w : World) :
    Calls Tryd.prog 85 #[u x, .int .i64 (-7)] w fun e w' => e = .returned (u (rr x 7)) ∧ w = w' := by
  unfold u
  have hx := (un_bd x).1
  have e1 : bits BinOp.and IntKind.u64 (IntKind.u64.wrap (-7)) 31 = 25 := by decide +kernel
  go_enter Tryd.func85, Tryd.ntmps85
  go_wp2
  go_ret
  exact ⟨ret_u32 (rr_lit7 x), rfl⟩
theorem rot_11 (x : W) (w : World) :
    Calls Tryd.prog 85 #[u x, .int .i64 (-11)] w fun e w' => e = .returned (u (rr x 11)) ∧ w = w' := by
  unfold u
  have hx := (un_bd x).1
  have e1 : bits BinOp.and IntKind.u64 (IntKind.u64.wrap (-11)) 31 = 21 := by decide +kernel
  go_enter Tryd.func85, Tryd.ntmps85
  go_wp2
  go_ret
  exact ⟨ret_u32 (rr_lit11 x), rfl⟩
theorem rot_13 (x : W) (w : World) :
    Calls Tryd.prog 85 #[u x, .int .i64 (-13)] w fun e w' => e = .returned (u (rr x 13)) ∧ w = w' := by
  unfold u
  have hx := (un_bd x).1
  have e1 : bits BinOp.and IntKind.u64 (IntKind.u64.wrap (-13)) 31 = 19 := by decide +kernel
  go_enter Tryd.func85, Tryd.ntmps85
  go_wp2
  go_ret
  exact ⟨ret_u32 (rr_lit13 x), rfl⟩
theorem rot_17 (x : W) (w : World) :
    Calls Tryd.prog 85 #[u x, .int .i64 (-17)] w fun e w' => e = .returned (u (rr x 17)) ∧ w = w' := by
  unfold u
  have hx := (un_bd x).1
  have e1 : bits BinOp.and IntKind.u64 (IntKind.u64.wrap (-17)) 31 = 15 := by decide +kernel
  go_enter Tryd.func85, Tryd.ntmps85
  go_wp2
  go_ret
  exact ⟨ret_u32 (rr_lit17 x), rfl⟩
theorem rot_18 (x : W) (w : World) :
    Calls Tryd.prog 85 #[u x, .int .i64 (-18)] w fun e w' => e = .returned (u (rr x 18)) ∧ w = w' := by
  unfold u
  have hx := (un_bd x).1
  have e1 : bits BinOp.and IntKind.u64 (IntKind.u64.wrap (-18)) 31 = 14 := by decide +kernel
  go_enter Tryd.func85, Tryd.ntmps85
  go_wp2
  go_ret
  exact ⟨ret_u32 (rr_lit18 x), rfl⟩
theorem rot_19 (x : W) (w : World) :
    Calls Tryd.prog 85 #[u x, .int .i64 (-19)] w fun e w' => e = .returned (u (rr x 19)) ∧ w = w' := by
  unfold u
  have hx := (un_bd x).1
  have e1 : bits BinOp.and IntKind.u64 (IntKind.u64.wrap (-19)) 31 = 13 := by decide +kernel
  go_enter Tryd.func85, Tryd.ntmps85
  go_wp2
  go_ret
  exact ⟨ret_u32 (rr_lit19 x), rfl⟩
theorem rot_22 (x : W) (w : World) :
    Calls Tryd.prog 85 #[u x, .int .i64 (-22)] w fun e w' => e = .returned (u (rr x 22)) ∧ w = w' := by
  unfold u
  have hx := (un_bd x).1
  have e1 : bits BinOp.and IntKind.u64 (IntKind.u64.wrap (-22)) 31 = 10 := by decide +kernel
  go_enter Tryd.func85, Tryd.ntmps85
  go_wp2
  go_ret
  exact ⟨ret_u32 (rr_lit22 x), rfl⟩
theorem rot_25 (x : W) (w : World) :
    Calls Tryd.prog 85 #[u x, .int .i64 (-25)] w fun e w' => e = .returned (u (rr x 25)) ∧ w = w' := by
  unfold u
  have hx := (un_bd x).1
  have e1 : bits BinOp.and IntKind.u64 (IntKind.u64.wrap (-25)) 31 = 7 := by decide +kernel
  go_enter Tryd.func85, Tryd.ntmps85
  go_wp2
  go_ret
  exact ⟨ret_u32 (rr_lit25 x), rfl⟩
theorem rotated_6 (x : W) (w : World) :
    Calls Tryd.prog 86 #[u x, .int .i64 6, .int .i64 11, .int .i64 25] w fun e w' => e = .returned (u (rot3 x 6 11 25)) ∧ w = w' := by
  have h1 := fun w => rot_6 x w
  have h2 := fun w => rot_11 x w
  have h3 := fun w => rot_25 x w
  unfold u at *
  go_enter Tryd.func86, Tryd.ntmps86
  go_wp2_with (first
    | (go_at_call 85; (with_reducible refine (h1 _).mono ?_); rintro e w1 ⟨rfl, rfl⟩)
    | (go_at_call 85; (with_reducible refine (h2 _).mono ?_); rintro e w1 ⟨rfl, rfl⟩)
    | (go_at_call 85; (with_reducible refine (h3 _).mono ?_); rintro e w1 ⟨rfl, rfl⟩))
  go_ret
  exact ⟨ret_u32 (by unfold rot3; rw [xor_n, xor_n]), rfl⟩
theorem rotated_2 (x : W) (w : World) :
    Calls Tryd.prog 86 #[u x, .int .i64 2, .int .i64 13, .int .i64 22] w fun e w' => e = .returned (u (rot3 x 2 13 22)) ∧ w = w' := by
  have h1 := fun w => rot_2 x w
  have h2 := fun w => rot_13 x w
  have h3 := fun w => rot_22 x w
  unfold u at *
  go_enter Tryd.func86, Tryd.ntmps86
  go_wp2_with (first
    | (go_at_call 85; (with_reducible refine (h1 _).mono ?_); rintro e w1 ⟨rfl, rfl⟩)
    | (go_at_call 85; (with_reducible refine (h2 _).mono ?_); rintro e w1 ⟨rfl, rfl⟩)
    | (go_at_call 85; (with_reducible refine (h3 _).mono ?_); rintro e w1 ⟨rfl, rfl⟩))
  go_ret
  exact ⟨ret_u32 (by unfold rot3; rw [xor_n, xor_n]), rfl⟩
end Go.Proofs.YtaheibbbdglcmaaDoor
