import Derived.Test.YtaheibbbdglcmaaDoorPow
namespace Go.Proofs.YtaheibbbdglcmaaDoor
open Go.RowKit Fk

set_option maxRecDepth 100000 in
set_option maxHeartbeats 1000000 in
theorem sane09 (w : World) : Calls Tryd.prog 10 #[] w fun e w' => e = .returned (.bool true) ∧ Below w.heap.size w w' := by
  have hB : Below w.heap.size w w := Below.refl _ _
  have q1 := pow_4_2
  have q2 := pow_4_Q
  have q3 := pow_4_m1
  have q4 := mul_4_4
  have q5 : powE 4 = 0 := by simp [powE, vld_4]
  have q6 : powE 0 = 90 := by simp [powE, vld_0]
  have q7 : mulE 4 4 = 0 := by simp [mulE, vld_4]
  have q8 : mulE 4 2 = 90 := by simp [mulE, vld_2]
  have q9 : elC 2 = 2147483577 := by simp [elC, vld_2]
  have q10 : elE 2 = 0 := by simp [elE]
  have q11 : elE 0 = 1 := by simp [elE]
  have q12 : elE 1073741790 = 1 := by simp [elE]
  have q13 : numC 2147483577 = 2 := by simp [numC, vld_P2]
  have q14 : numE 2147483577 = 0 := by simp [numE, vld_P2]
  have q15 : numE 2 = 90 := by simp [numE, vld_2]
  have q16 := vld_0
  have q17 := vld_P
  have q18 := vld_2
  have q19 := vld_1
  have q20 := vld_4
  have q21 := vld_P1
  go_enter Tryd.func10, Tryd.ntmps10
  go_wp2_with (first | (go_at_call 35; refine (pow_any _ _ _).mono ?_; rintro e w1 ⟨rfl, hb⟩; replace hB := hB.trans (hb.mono hB.size); clear hb) | (go_at_call 36; refine (mul_any _ _ _).mono ?_; rintro e w1 ⟨rfl, rfl⟩) | (go_at_call 11; refine (element_any _ _).mono ?_; rintro e w1 ⟨rfl, rfl⟩) | (go_at_call 13; refine (number_any _ _).mono ?_; rintro e w1 ⟨rfl, rfl⟩) | (go_at_call 37; refine (valid_any _ _).mono ?_; rintro e w1 ⟨rfl, rfl⟩))
  go_ret
  exact ⟨rfl, hB⟩
end Go.Proofs.YtaheibbbdglcmaaDoor
