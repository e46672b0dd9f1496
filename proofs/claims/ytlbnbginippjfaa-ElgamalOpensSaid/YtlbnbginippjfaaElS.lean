import Derived.Test.YtlbnbginippjfaaElP
/-! The chapter's examples of letters, as numbers. -/
namespace Fk
theorem vld_9 : vld 9 = true := by rw [vld_K]; decide +kernel
theorem vld_16 : vld 16 = true := by rw [vld_K]; decide +kernel
theorem vld_64 : vld 64 = true := by rw [vld_K]; decide +kernel
theorem vld_144 : vld 144 = true := by rw [vld_K]; decide +kernel
theorem vld_2304 : vld 2304 = true := by rw [vld_K]; decide +kernel
theorem pw_4_0 : powC 4 0 = 1 := by rw [pow_K]; decide +kernel
theorem pw_4_1 : powC 4 1 = 4 := by rw [pow_K]; decide +kernel
theorem pw_4_2 : powC 4 2 = 16 := by rw [pow_K]; decide +kernel
theorem pw_4_m : powC 4 (-1) = 536870895 := by rw [pow_K]; decide +kernel
theorem pw_16_0 : powC 16 0 = 1 := by rw [pow_K]; decide +kernel
theorem pw_16_1 : powC 16 1 = 16 := by rw [pow_K]; decide +kernel
theorem pw_16_2 : powC 16 2 = 256 := by rw [pow_K]; decide +kernel
theorem pw_1_m2 : powC 1 (-2) = 1 := by rw [pow_K]; decide +kernel
theorem pw_4_m2 : powC 4 (-2) * 64 % 2147483579 = 4 := by rw [pow_K]; decide +kernel
theorem pw_16_m2 : powC 16 (-2) * 2304 % 2147483579 = 9 := by rw [pow_K]; decide +kernel
theorem pw_16_m1 : powC 16 (-1) * 2304 % 2147483579 = 144 := by rw [pow_K]; decide +kernel
theorem sec_2 : secB 2 = true := by decide
theorem sec_0 : secB 0 = false := by decide
theorem pub_2 : pubC 2 = 16 ∧ pubE 2 = 0 := by
  unfold pubC pubE; rw [sec_2, if_pos rfl, if_pos rfl]; exact ⟨pw_4_2, rfl⟩
theorem pub_0 : pubE 0 = 110 := by unfold pubE; rw [sec_0]; rfl
theorem joinTo_two (a b : Int) (ha : vld a = true) (hb : vld b = true) (h1 : 1 * a % 2147483579 = a) : joinTo [a, b] = some (a * b % 2147483579) := by
  have e1 : joinTo [a] = some a := by
    rw [show [a] = [] ++ [a] from rfl, joinTo_snoc, show joinTo [] = some 1 from rfl]
    simp only
    rw [vld_1, ha, h1]; rfl
  rw [show [a, b] = [a] ++ [b] from rfl, joinTo_snoc, e1]
  simp only
  rw [ha, hb]; rfl
theorem join_ex : joinC [4, 16] = 64 ∧ joinE [4, 16] = 0 := by
  have h := joinTo_two 4 16 vld_4 vld_16 (by decide)
  unfold joinC joinE
  rw [h]
  exact ⟨by decide, rfl⟩
theorem join_nil : joinC [] = 1 ∧ joinE [] = 0 := by
  have : joinTo [] = some 1 := rfl
  simp [joinC, joinE, this]
def sE1 : Se := ⟨⟨1, 1⟩, ⟨4, 64⟩, ⟨16, 2304⟩⟩
def sE2 : Se := ⟨⟨1, 1⟩, ⟨4, 4⟩, ⟨16, 9⟩⟩
def sE3 : Se := ⟨⟨4, 16⟩, ⟨4, 64⟩, ⟨4, 144⟩⟩
theorem el_1 : elC 1 = 1 ∧ elE 1 = 0 := by simp [elC, elE, vld_1]
theorem el_4 : elC 4 = 4 ∧ elE 4 = 0 := by simp [elC, elE, vld_4]
theorem el_9 : elC 9 = 9 ∧ elE 9 = 0 := by simp [elC, elE, vld_9]
theorem seal_ex : sealC 16 ⟨1, 4, 9⟩ ⟨0, 1, 2⟩ = sE1 ∧ sealE 16 ⟨1, 4, 9⟩ = 0 := by
  have hw : wOK ⟨1, 4, 9⟩ = true := by simp [wOK, el_1, el_4, el_9]
  refine ⟨?_, by simp [sealE, vld_16, hw]⟩
  unfold sealC
  rw [vld_16, hw]
  simp [seal0, Se.map, moreC, Tr.get, el_1, el_4, el_9, pw_4_0, pw_4_1, pw_4_2, pw_16_0, pw_16_1, pw_16_2, sE1]
theorem seal_ex2 : sealE 4 ⟨0, 1, 1⟩ = 100 := by
  have hw : wOK ⟨0, 1, 1⟩ = false := by simp [wOK, elE]
  simp [sealE, vld_4, hw]
theorem ok_E1 : okS sE1 = true := by simp [okS, okC, sE1, vld_1, vld_4, vld_64, vld_16, vld_2304]
theorem ok_E2 : okS sE2 = true := by simp [okS, okC, sE2, vld_1, vld_4, vld_16, vld_9]
theorem ch_E1 : chS sE1 = 0 := by simp [chS, ok_E1]
theorem ch_0 : chS default = 100 := by
  have : okS default = false := by
    have e : okS default = (vld 0 && vld 0 && (vld 0 && vld 0 && (vld 0 && vld 0))) := rfl
    rw [e, vld_0]; rfl
  simp [chS, this]
theorem strip_ex : strpC 2 sE1 = sE2 ∧ strpE 2 sE1 = 0 := by
  refine ⟨?_, by simp [strpE, secB, ch_E1]⟩
  unfold strpC
  have h2 := pw_4_m2
  have h3 := pw_16_m2
  rw [Int.mul_comm] at h2 h3
  rw [ok_E1]
  simp [secB, Se.map, stripC, sE1, sE2, pw_1_m2, h2, h3]
theorem read_ex : readC sE2 = ⟨1, 4, 9⟩ := by
  unfold readC
  rw [ok_E2]
  simp [sE2, numC, vld_1, vld_4, vld_9]
theorem again_ex : againC 16 sE1 ⟨1, 0, -1⟩ = sE3 ∧ againE 16 sE1 = 0 := by
  refine ⟨?_, by simp [againE, vld_16, ch_E1]⟩
  unfold againC
  have h3 := pw_16_m1
  rw [Int.mul_comm] at h3
  rw [ok_E1, vld_16]
  simp [Se.map, moreC, Tr.get, sE1, sE3, pw_4_1, pw_4_0, pw_4_m, pw_16_1, pw_16_0, h3]
end Fk
