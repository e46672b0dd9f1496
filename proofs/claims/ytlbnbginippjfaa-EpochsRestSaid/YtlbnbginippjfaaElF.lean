import Derived.Test.YtlbnbginippjfaaElP
/-! What stays in form. -/
namespace Fk
theorem mul_in {a b : Int} (ha : vld a = true) (hb : vld b = true) : a * b % 2147483579 = mulC a b := by
  unfold mulC; rw [ha, hb]; rfl
theorem vld_times {a b : Int} (ha : vld a = true) (hb : vld b = true) : vld (a * b % 2147483579) = true := by
  rw [mul_in ha hb]; exact vld_mul ha hb
theorem okC_more {key : Int} {r : Tr} {i : Nat} {c : Ci} (hk : vld key = true) (h : okC c = true) : okC (moreC key r i c) = true := by
  obtain ⟨ha, hb⟩ := okC_iff.1 h
  exact okC_iff.2 ⟨vld_times ha (vld_powC vld_4 _), vld_times hb (vld_powC hk _)⟩
theorem okC_strip {n : Int} {i : Nat} {c : Ci} (h : okC c = true) : okC (stripC n i c) = true := by
  obtain ⟨ha, hb⟩ := okC_iff.1 h
  exact okC_iff.2 ⟨ha, vld_times hb (vld_powC ha _)⟩
theorem okS_map {f : Nat → Ci → Ci} {s : Se} (hf : ∀ i c, okC c = true → okC (f i c) = true) (h : okS s = true) : okS (s.map f) = true := by
  obtain ⟨h1, h2, h3⟩ := okS_iff.1 h
  exact okS_iff.2 ⟨hf _ _ h1, hf _ _ h2, hf _ _ h3⟩
theorem okS_more {key : Int} {r : Tr} {s : Se} (hk : vld key = true) (h : okS s = true) : okS (s.map (moreC key r)) = true := okS_map (fun _ _ => okC_more hk) h
theorem okS_strip {n : Int} {s : Se} (h : okS s = true) : okS (s.map (stripC n)) = true := okS_map (fun _ _ => okC_strip) h
theorem chS_0 {s : Se} (h : okS s = true) : chS s = 0 := by unfold chS; rw [if_pos h]
theorem chS_1 {s : Se} (h : okS s = false) : chS s = 100 := by unfold chS; rw [h]; rfl
/-- form of the first k -/
def okTo (s : Se) (k : Nat) : Bool := (!decide (0 < k) || okC s.x) && ((!decide (1 < k) || okC s.y) && (!decide (2 < k) || okC s.z))
theorem okTo_3 (s : Se) : okTo s 3 = okS s := by simp [okTo, okS]
theorem okTo_succ (s : Se) {k : Nat} (h : k < 3) : okTo s (k + 1) = (okTo s k && okC (s.get k)) := by
  rcases (show k = 0 ∨ k = 1 ∨ k = 2 by omega) with rfl | rfl | rfl <;> simp [okTo, Se.get, Bool.and_assoc]
theorem el_back {x : Int} (h : vld x = true) : elC (numC x) = x ∧ elE (numC x) = 0 := by
  obtain ⟨h1, h2, h3⟩ := el_num h
  refine ⟨h1, ?_⟩
  unfold elE; rw [if_pos ⟨h2, h3⟩]
/-- a form answer -/
theorem form_bad (key n : Int) {s : Se} (h : okS s = false) : againE key s ≠ 0 ∧ strpE n s ≠ 0 ∧ readC s = default := by
  unfold againE strpE readC
  rw [chS_1 h, h]
  refine ⟨?_, ?_, rfl⟩ <;> split <;> decide
end Fk
