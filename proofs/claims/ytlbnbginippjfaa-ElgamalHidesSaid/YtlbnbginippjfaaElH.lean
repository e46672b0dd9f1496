import Derived.Test.YtlbnbginippjfaaEl15
import Derived.Test.YtlbnbginippjfaaEl16
import Derived.Test.YtlbnbginippjfaaEl14
import Derived.Test.YtlbnbginippjfaaElF
import Derived.Test.YtlbnbginippjfaaLag
namespace Go.Proofs.Ytlbnbginippjfaa
open Go.RowKit Fk
/-! What ElgamalHides calls, and why the ciphers agree. -/
def setT (f : Tr) (k : Nat) (v : Int) : Tr := ⟨if k = 0 then v else f.p, if k = 1 then v else f.q, if k = 2 then v else f.r⟩
theorem powC_mod {a n m : Int} (h : n % 1073741789 = m % 1073741789) : powC a n = powC a m := by unfold powC; rw [h]
theorem powC_1 {a : Int} (ha : vld a = true) : powC a 1 = a := by
  obtain ⟨A, rfl, _, h, hA⟩ := nat_vld ha
  rw [powC_of ha hA (n := 1) (m := 1) (by omega), Nat.pow_one, Nat.mod_eq_of_lt h]
theorem inv_nat {a : Nat} (h : a % 1073741789 ≠ 0) : a * (a ^ 1073741787 % 1073741789) % 1073741789 = 1 := by
  have e : 1073741787 = ex2 := rfl
  rw [e, Nat.mul_mod_mod, Nat.mul_comm, ← Nat.pow_succ]
  exact fermat h
theorem inv_int {r : Int} (h : r % 1073741789 ≠ 0) : ((((r % 1073741789).toNat ^ 1073741787 % 1073741789 : Nat) : Int) * r) % 1073741789 = 1 := by
  obtain ⟨a, ha, hl⟩ : ∃ a : Nat, r % 1073741789 = (a : Int) ∧ a < 1073741789 := ⟨(r % 1073741789).toNat, by omega, by omega⟩
  have h1 := inv_nat (a := a) (by omega)
  rw [ha]
  have e : ((a : Int)).toNat = a := by omega
  rw [e]
  generalize a ^ 1073741787 % 1073741789 = c at *
  rw [Int.mul_comm, Int.mul_emod, show r % 1073741789 = ((a % 1073741789 : Nat) : Int) by omega, show ((c : Int)) % 1073741789 = ((c % 1073741789 : Nat) : Int) by omega, ← Int.natCast_mul]
  have h2 : a % 1073741789 * (c % 1073741789) % 1073741789 = 1 := by rw [← Nat.mul_mod]; exact h1
  omega
theorem map_get (f : Nat → Ci → Ci) (s : Se) {k : Nat} (h : k < 3) : (s.map f).get k = f k (s.get k) := by
  rcases (show k = 0 ∨ k = 1 ∨ k = 2 by omega) with rfl | rfl | rfl <;> rfl
theorem seal0_get (t : Tr) {k : Nat} (h : k < 3) : (seal0 t).get k = ⟨1, elC (t.get k)⟩ := by
  rcases (show k = 0 ∨ k = 1 ∨ k = 2 by omega) with rfl | rfl | rfl <;> rfl
theorem wOK_get {t : Tr} (h : wOK t = true) {k : Nat} (hk : k < 3) : 1 ≤ t.get k ∧ t.get k ≤ 1073741789 := by
  simp only [wOK, Bool.and_eq_true] at h
  obtain ⟨h1, h2, h3⟩ := h
  rcases (show k = 0 ∨ k = 1 ∨ k = 2 by omega) with rfl | rfl | rfl
  · exact elE_iff.1 h1
  · exact elE_iff.1 h2
  · exact elE_iff.1 h3
theorem setT_get (t : Tr) {k : Nat} (hk : k < 3) (v : Int) : (setT t k v).get k = v := by
  rcases (show k = 0 ∨ k = 1 ∨ k = 2 by omega) with rfl | rfl | rfl <;> rfl
theorem setT_ok {t : Tr} (h : wOK t = true) {k : Nat} (hk : k < 3) {v : Int} (h1 : 1 ≤ v) (h2 : v ≤ 1073741789) : wOK (setT t k v) = true := by
  have hv := elE_iff.2 ⟨h1, h2⟩
  simp only [wOK, Bool.and_eq_true] at h
  obtain ⟨g1, g2, g3⟩ := h
  rcases (show k = 0 ∨ k = 1 ∨ k = 2 by omega) with rfl | rfl | rfl <;> simp [setT, wOK, hv] at * <;> simp [g1, g2, g3]
theorem hides_eq {key : Int} (hk : vld key = true) {t r : Tr} (hw : wOK t = true) {k : Nat} (h3 : k < 3) {o : Int} (h1 : 1 ≤ o) (h2 : o ≤ 1073741789) (hr : r.get k % 1073741789 ≠ 0) :
    vld ((sealC key t r).get k).b = true ∧ vld (elC o) = true ∧
    (sealC (powC (mulC ((sealC key t r).get k).b (powC (elC o) (-1))) (((r.get k % 1073741789).toNat ^ 1073741787 % 1073741789 : Nat) : Int)) (setT t k o) r).get k = (sealC key t r).get k := by
  obtain ⟨w1, w2⟩ := wOK_get hw h3
  have ve := vld_el h1 h2
  have vw := vld_el w1 w2
  have e1 : (sealC key t r).get k = ⟨1 * powC 4 (r.get k) % 2147483579, elC (t.get k) * powC key (r.get k) % 2147483579⟩ := by
    unfold sealC; rw [hk, hw]; show ((seal0 t).map _).get k = _; rw [map_get _ _ h3, seal0_get _ h3]; rfl
  have vb : vld ((sealC key t r).get k).b = true := by rw [e1]; exact vld_times vw (vld_powC hk _)
  refine ⟨vb, ve, ?_⟩
  obtain ⟨B, hB⟩ : ∃ B, ((sealC key t r).get k).b = B := ⟨_, rfl⟩
  rw [hB] at vb ⊢
  have vx := vld_powC ve (-1)
  have vm := vld_mul vb vx
  have vs := vld_powC vm (((r.get k % 1073741789).toNat ^ 1073741787 % 1073741789 : Nat) : Int)
  have e2 : powC (powC (mulC B (powC (elC o) (-1))) (((r.get k % 1073741789).toNat ^ 1073741787 % 1073741789 : Nat) : Int)) (r.get k) = mulC B (powC (elC o) (-1)) := by
    rw [pow_mul' vm, powC_mod (m := 1) (by rw [inv_int hr]; rfl), powC_1 vm]
  have e3 : elC o * mulC B (powC (elC o) (-1)) % 2147483579 = B := by
    rw [mul_in ve vm, mul_comm' ve vm, mul_assoc' vb vx ve]
    have : mulC (powC (elC o) (-1)) (elC o) = 1 := by
      have h := pow_add' ve (-1) 1
      rw [powC_1 ve] at h
      rw [h, show (-1 : Int) + 1 = 0 by omega, pow_0 ve]
    rw [this, mul_one' vb]
  have e4 : (sealC key t r).get k = ⟨1 * powC 4 (r.get k) % 2147483579, B⟩ := by
    rw [← hB, e1]
  rw [e4]
  unfold sealC
  rw [vs, setT_ok hw h3 h1 h2]
  show ((seal0 (setT t k o)).map _).get k = _
  rw [map_get _ _ h3, seal0_get _ h3, setT_get t h3]
  unfold moreC
  rw [e2]
  simp only
  rw [e3]
/-- what the law calls -/
theorem hides_calls {key : Int} (hk : vld key = true) {t r : Tr} (hw : wOK t = true) {k : Nat} (h3 : k < 3) {o : Int} (h1 : 1 ≤ o) (h2 : o ≤ 1073741789) (hr : r.get k % 1073741789 ≠ 0) :
    ∃ (S T : Se) (x bk m iv sd : Int), T.get k = S.get k ∧
      (∀ w : World, Calls Try.prog 16 #[.int .i64 key, t.val, r.val] w fun e w' => e = .returned (.tuple #[S.val, .int .i64 0]) ∧ Below w.heap.size w w') ∧
      (∀ w : World, Calls Try.prog 28 #[.int .i64 o] w fun e w' => e = .returned (.tuple #[.int .i64 x, .int .i64 0]) ∧ w = w') ∧
      (∀ w : World, Calls Try.prog 29 #[.int .i64 x, .int .i64 (-1)] w fun e w' => e = .returned (.tuple #[.int .i64 bk, .int .i64 0]) ∧ Below w.heap.size w w') ∧
      (∀ w : World, Calls Try.prog 30 #[.int .i64 (S.get k).b, .int .i64 bk] w fun e w' => e = .returned (.tuple #[.int .i64 m, .int .i64 0]) ∧ w = w') ∧
      (∀ w : World, Calls Try.prog 31 #[.int .i64 (r.get k)] w fun e w' => e = .returned (.int .i64 iv) ∧ w = w') ∧
      (∀ w : World, Calls Try.prog 29 #[.int .i64 m, .int .i64 iv] w fun e w' => e = .returned (.tuple #[.int .i64 sd, .int .i64 0]) ∧ Below w.heap.size w w') ∧
      (∀ w : World, Calls Try.prog 16 #[.int .i64 sd, (setT t k o).val, r.val] w fun e w' => e = .returned (.tuple #[T.val, .int .i64 0]) ∧ Below w.heap.size w w') := by
  obtain ⟨vb, ve, heq⟩ := hides_eq hk hw h3 h1 h2 hr
  have vx := vld_powC ve (-1)
  have vm := vld_mul vb vx
  have vs := vld_powC vm (((r.get k % 1073741789).toNat ^ 1073741787 % 1073741789 : Nat) : Int)
  refine ⟨sealC key t r, sealC (powC (mulC ((sealC key t r).get k).b (powC (elC o) (-1))) (((r.get k % 1073741789).toNat ^ 1073741787 % 1073741789 : Nat) : Int)) (setT t k o) r, elC o, powC (elC o) (-1), (mulC ((sealC key t r).get k).b (powC (elC o) (-1))), (((r.get k % 1073741789).toNat ^ 1073741787 % 1073741789 : Nat) : Int), (powC (mulC ((sealC key t r).get k).b (powC (elC o) (-1))) (((r.get k % 1073741789).toNat ^ 1073741787 % 1073741789 : Nat) : Int)), heq, fun w => ?_, fun w => ?_, fun w => ?_, fun w => ?_, fun w => inverse_any _ w, fun w => ?_, fun w => ?_⟩
  · have h := seal_any key t r w
    rw [show sealE key t = 0 by unfold sealE; rw [hk, hw]; rfl] at h; exact h
  · have h := element_any o w
    rw [show elE o = 0 by unfold elE; rw [if_pos ⟨h1, h2⟩]] at h; exact h
  · have h := pow_any (elC o) (-1) w
    rw [show powE (elC o) = 0 by unfold powE; rw [ve]; rfl] at h; exact h
  · have h := mul_any ((sealC key t r).get k).b (powC (elC o) (-1)) w
    rw [show mulE ((sealC key t r).get k).b (powC (elC o) (-1)) = 0 by unfold mulE; rw [vb, vx]; rfl] at h; exact h
  · have h := pow_any (mulC ((sealC key t r).get k).b (powC (elC o) (-1))) (((r.get k % 1073741789).toNat ^ 1073741787 % 1073741789 : Nat) : Int) w
    rw [show powE (mulC ((sealC key t r).get k).b (powC (elC o) (-1))) = 0 by unfold powE; rw [vm]; rfl] at h; exact h
  · have h := seal_any (powC (mulC ((sealC key t r).get k).b (powC (elC o) (-1))) (((r.get k % 1073741789).toNat ^ 1073741787 % 1073741789 : Nat) : Int)) (setT t k o) r w
    rw [show sealE (powC (mulC ((sealC key t r).get k).b (powC (elC o) (-1))) (((r.get k % 1073741789).toNat ^ 1073741787 % 1073741789 : Nat) : Int)) (setT t k o) = 0 by unfold sealE; rw [vs, setT_ok hw h3 h1 h2]; rfl] at h; exact h
end Go.Proofs.Ytlbnbginippjfaa
