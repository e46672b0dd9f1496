import Derived.Test.YtlbnbginippjfaaRef47P
import Derived.Test.YtlbnbginippjfaaEpK
import Derived.Test.YtlbnbginippjfaaRestP
/-! The numbers of the examples. -/
namespace Fk
theorem vld_16e : vld 16 = true := by rw [vld_K]; decide +kernel
def eL0 : List Ep := [⟨3, 5, 4⟩, ⟨3, 9, 16⟩]
def eL1 : List Ep := [⟨3, 9, 16⟩, ⟨3, 5, 4⟩]
theorem chk_L0 : chkE eL0 = 0 := by
  refine chkE_good (by simp [eL0]) ?_
  intro i hi
  have h2 : i < 2 := hi
  have v4 := vld_4
  have v16 := vld_16e
  rcases (show i = 0 ∨ i = 1 by omega) with rfl | rfl
  · exact ⟨⟨by simp [eL0], by simp [eL0], by simp [eL0], by simp [eL0], by simp [eL0], by simpa [eL0] using v4⟩, fun h => by omega⟩
  · exact ⟨⟨by simp [eL0], by simp [eL0], by simp [eL0], by simp [eL0], by simp [eL0], by simpa [eL0] using v16⟩, fun h => by simp [eL0, epLt]⟩
theorem chk_nil : chkE [] = 0 := chkE_good (by simp) (fun i hi => absurd hi (by simp))
theorem chk_L1 : chkE eL1 = 470 := chkE_bad (i := 1) (by simp [eL1]) (by simp [eL1]) (fun h => by have := h.2 (by omega); simp [eL1, epLt] at this)
theorem chk_L2 : chkE [⟨0, 0, 1⟩] = 470 := chkE_bad (i := 0) (by simp) (by simp) (fun h => by have := h.1.2.2.2.2.1; simp at this)
theorem key_ex (l : List Ep) (o t : Int) (h : chkE l = 0) (ha : argsOK o t) : keyC l o t = keyV l o t ∧ okK l o t = okV l o t ∧ keyE l o t = 0 := by
  unfold keyC okK keyE; rw [if_pos ⟨h, ha⟩, if_pos ⟨h, ha⟩, if_pos h, if_pos ha]; exact ⟨rfl, rfl, rfl⟩
theorem key_ex1 : keyC eL0 3 4 = 0 ∧ okK eL0 3 4 = false ∧ keyE eL0 3 4 = 0 := key_ex eL0 3 4 chk_L0 (by unfold argsOK; omega)
theorem key_ex2 : keyC eL0 3 8 = 4 ∧ okK eL0 3 8 = true ∧ keyE eL0 3 8 = 0 := key_ex eL0 3 8 chk_L0 (by unfold argsOK; omega)
theorem key_ex3 : keyC eL0 3 9 = 16 ∧ okK eL0 3 9 = true ∧ keyE eL0 3 9 = 0 := key_ex eL0 3 9 chk_L0 (by unfold argsOK; omega)
theorem key_ex4 : keyC [] 0 0 = 0 ∧ okK [] 0 0 = false ∧ keyE [] 0 0 = 0 := key_ex [] 0 0 chk_nil (by unfold argsOK; omega)
theorem key_ex5 : keyC eL0 24 0 = 0 ∧ okK eL0 24 0 = false ∧ keyE eL0 24 0 = 1 := by
  have hn : ¬ argsOK 24 0 := fun h => by have := h.2.2.1; omega
  unfold keyC okK keyE; rw [if_neg (fun h => hn h.2), if_neg (fun h => hn h.2), if_pos chk_L0, if_neg hn]; exact ⟨rfl, rfl, rfl⟩
theorem rest_ex1 : restE [4, 16] = 0 ∧ restV [4, 16] = [64, 16, 1] := by
  have e : restE [4, 16] = 0 := by simp [restE, allV, vld_4, vld_16e]
  refine ⟨e, ?_⟩
  rw [restV, if_pos e]
  simp [restL, mulC, vld_4, vld_16e, vld_1]
theorem rest_ex2 : restE [] = 0 ∧ restV [] = [1] := by
  have e : restE [] = 0 := by simp [restE, allV]
  exact ⟨e, by rw [restV, if_pos e]; rfl⟩
theorem rest_ex3 : restE [2] = 90 := by simp [restE, allV, vld_2]
theorem deal_ex1 : dealE 7 1 3 = 0 ∧ dealV 7 [3] 3 = [⟨1, 10⟩, ⟨2, 13⟩, ⟨3, 16⟩] := by
  refine ⟨by simp [dealE], ?_⟩
  rw [dealV, if_pos (by simp [dealE])]
  rfl
theorem deal_ex2 : dealE 7 1 1 = 1 := by simp [dealE]
theorem deal_ex3 : dealE 0 0 1 = 110 := by simp [dealE]
def sL0 : List Sh := [⟨2, 13⟩, ⟨3, 16⟩]
theorem pwQ_one : pwQ 1 1073741787 = 1 := by rw [pwQ_ex 1 (by omega), Int.one_pow]; rfl
theorem pwQ_neg : pwQ 1073741788 1073741787 = 1073741788 := by
  rw [pwQ_ex _ (by omega), powZ_congr (show (1073741788 : Int) % 1073741789 = (-1) % 1073741789 from rfl), ex2_eq, neg_powZ, Int.one_pow]; rfl
theorem rec_ex1 : recE sL0 = 0 ∧ recV sL0 = 7 := by
  have hf : formedS sL0 := by
    refine ⟨by simp [sL0], fun i hi => ?_⟩
    have h2 : i < 2 := hi
    rcases (show i = 0 ∨ i = 1 by omega) with rfl | rfl
    · exact ⟨by simp [sL0, shOK], fun j hj => by omega⟩
    · refine ⟨by simp [sL0, shOK], fun j hj => ?_⟩
      obtain rfl : j = 0 := by omega
      simp [sL0]
  obtain ⟨e1, e2⟩ := recE_ok hf
  refine ⟨e1, ?_⟩
  rw [e2]
  have b0 : belowQ ⟨2, 13⟩ sL0 = 1 := rfl
  have b1 : belowQ ⟨3, 16⟩ sL0 = 1073741788 := rfl
  have a0 : aboveQ ⟨2, 13⟩ sL0 = 39 := rfl
  have a1 : aboveQ ⟨3, 16⟩ sL0 = 32 := rfl
  show stepR sL0 (stepR sL0 0 ⟨2, 13⟩) ⟨3, 16⟩ = 7
  unfold stepR
  rw [b0, b1, a0, a1, pwQ_one, pwQ_neg]
  rfl
theorem rec_ex2 : recE [⟨2, 13⟩, ⟨2, 13⟩] = 471 := (recE_bad (i := 1) (by simp) (fun h => h.2 0 (by omega) rfl)).1
end Fk
