import Derived.Test.YtlbnbginippjfaaEl18
import Derived.Test.YtlbnbginippjfaaEl14
import Derived.Test.YtlbnbginippjfaaOpenG
namespace Go.Proofs.Ytlbnbginippjfaa
open Go.RowKit Fk
/-! What ElgamalPart calls. -/
def jstep (o : Option Int) (k : Int) : Option Int := match o with
  | some c => if vld c && vld k then some (c * k % 2147483579) else none
  | none => none
theorem joinTo_js (l : List Int) : joinTo l = l.foldl jstep (some 1) := rfl
theorem jstep_ok {a b : Int} (ha : vld a = true) (hb : vld b = true) : jstep (some a) b = some (mulC a b) := by
  unfold jstep
  simp only
  rw [ha, hb]
  simp only [Bool.and_self, if_true]
  rw [mul_in ha hb]
theorem fold_pow : ∀ (l : List Int) (a : Int), (pubs l).foldl jstep (some (powC 4 a)) = some (powC 4 (a + l.sum))
  | [], a => by simp [pubs]
  | x :: l, a => by
    have e : pubs (x :: l) = powC 4 x :: pubs l := rfl
    rw [e, List.foldl_cons, jstep_ok (vld_powC vld_4 a) (vld_powC vld_4 x), pow_add' vld_4, fold_pow l (a + x), List.sum_cons, Int.add_assoc]
theorem join_pow (l : List Int) : joinC (pubs l) = powC 4 l.sum := by
  have h := fold_pow l 0
  rw [pow_0 vld_4, ← joinTo_js] at h
  unfold joinC
  rw [h, Int.zero_add, Option.getD_some]
theorem sum_but {l : List Int} {k : Nat} (h : k < l.length) : l.sum = (l.take k ++ l.drop (k + 1)).sum + l.getD k default := by
  have e : l.getD k default = l[k] := by rw [List.getD_eq_getElem?_getD, List.getElem?_eq_getElem h]; rfl
  conv => lhs; rw [← List.take_append_drop k l, List.drop_eq_getElem_cons h]
  rw [List.sum_append, List.sum_append, List.sum_cons, e]
  omega
theorem stripC_more {S n : Int} {e : Int} (he : vld e = true) (r : Tr) (i : Nat) : stripC n i (moreC (powC 4 S) r i ⟨1, e⟩) = moreC (powC 4 (S - n)) r i ⟨1, e⟩ := by
  have h4 := vld_4
  have hr := vld_powC h4 (r.get i)
  unfold stripC moreC
  simp only
  have e1 : 1 * powC 4 (r.get i) % 2147483579 = powC 4 (r.get i) := one_pow_mod 4 (r.get i)
  rw [e1, pow_mul' h4, pow_mul' h4, pow_mul' h4, mul_in he (vld_powC h4 _), mul_in (vld_mul he (vld_powC h4 _)) (vld_powC h4 _), mul_assoc' he (vld_powC h4 _) (vld_powC h4 _), pow_add' h4, mul_in he (vld_powC h4 _)]
  have e2 : S * r.get i + r.get i * -n = (S - n) * r.get i := by rw [Int.sub_mul, Int.mul_neg, Int.mul_comm n]; omega
  rw [e2]
theorem part_calls {l : List Int} (hok : rightB l = true) {k : Nat} (hk : k < l.length) {t : Tr} (hw : wOK t = true) (r : Tr) :
    ∃ A B : Se, (∀ w : World, Calls Try.prog 16 #[.int .i64 (joinC (pubs l)), t.val, r.val] w fun e w' => e = .returned (.tuple #[A.val, .int .i64 0]) ∧ Below w.heap.size w w') ∧
      (∀ w : World, Calls Try.prog 23 #[.int .i64 (l.getD k default), A.val] w fun e w' => e = .returned (.tuple #[B.val, .int .i64 0]) ∧ Below w.heap.size w w') ∧
      (∀ w : World, Calls Try.prog 16 #[.int .i64 (joinC (pubs (l.take k ++ l.drop (k + 1)))), t.val, r.val] w fun e w' => e = .returned (.tuple #[B.val, .int .i64 0]) ∧ Below w.heap.size w w') := by
  rw [join_pow, join_pow, sum_but hk]
  generalize (l.take k ++ l.drop (k + 1)).sum = S
  have hs : secB (l.getD k default) = true := by
    unfold rightB at hok
    simp only [Bool.and_eq_true, decide_eq_true_eq, List.all_eq_true] at hok
    refine hok.1 _ ?_
    rw [List.getD_eq_getElem?_getD, List.getElem?_eq_getElem hk]
    exact List.getElem_mem _
  generalize l.getD k default = n at *
  have h4 := vld_4
  have v1 := vld_powC h4 (S + n)
  have v2 := vld_powC h4 S
  have hA : okS (sealC (powC 4 (S + n)) t r) = true := by unfold sealC; rw [v1, hw]; exact okS_more v1 (seal0_ok hw)
  have hAe : sealC (powC 4 (S + n)) t r = (seal0 t).map (moreC (powC 4 (S + n)) r) := by unfold sealC; rw [v1, hw]; rfl
  have hBe : sealC (powC 4 S) t r = (seal0 t).map (moreC (powC 4 S) r) := by unfold sealC; rw [v2, hw]; rfl
  have hst : strpC n (sealC (powC 4 (S + n)) t r) = sealC (powC 4 S) t r := by
    unfold strpC
    rw [hs, hA, hAe, hBe]
    obtain ⟨h1, h2, h3⟩ := okS_iff.1 (seal0_ok hw)
    show ((seal0 t).map _).map _ = _
    have e : S = S + n - n := by omega
    conv => rhs; rw [e]
    show (⟨stripC n 0 (moreC _ r 0 ⟨1, elC t.p⟩), stripC n 1 (moreC _ r 1 ⟨1, elC t.q⟩), stripC n 2 (moreC _ r 2 ⟨1, elC t.r⟩)⟩ : Se) = ⟨moreC _ r 0 ⟨1, elC t.p⟩, moreC _ r 1 ⟨1, elC t.q⟩, moreC _ r 2 ⟨1, elC t.r⟩⟩
    have w1 : vld (elC t.p) = true := (okC_iff.1 h1).2
    have w2 : vld (elC t.q) = true := (okC_iff.1 h2).2
    have w3 : vld (elC t.r) = true := (okC_iff.1 h3).2
    rw [stripC_more w1, stripC_more w2, stripC_more w3]
  refine ⟨sealC (powC 4 (S + n)) t r, sealC (powC 4 S) t r, fun w => ?_, fun w => ?_, fun w => ?_⟩
  · have h := seal_any (powC 4 (S + n)) t r w
    rw [show sealE (powC 4 (S + n)) t = 0 by unfold sealE; rw [v1, hw]; rfl] at h; exact h
  · have h := strp_any n (sealC (powC 4 (S + n)) t r) w
    rw [hst, show strpE n (sealC (powC 4 (S + n)) t r) = 0 by unfold strpE; rw [hs, if_pos rfl]; exact chS_0 hA] at h; exact h
  · have h := seal_any (powC 4 S) t r w
    rw [show sealE (powC 4 S) t = 0 by unfold sealE; rw [v2, hw]; rfl] at h; exact h
theorem flat_int (l : List Int) : l.flatMap encI = l.map (Value.int .i64) := by
  induction l with
  | nil => rfl
  | cons x l ih => rw [List.flatMap_cons, ih]; rfl
theorem news_at {W : World} {B0 b off c : Nat} {l : List Int} (h : SlI W B0 (.slice (some ⟨b, off, none⟩) l.length c) l) (hl : 1 ≤ l.length) (s : Nat) (l' : List Int)
    (hs : ∀ j, j < l'.length → s + j < l.length ∧ l.getD (s + j) default = l'.getD j default) : ∀ j u, (l'.flatMap encI)[j]? = some u → W.cell? ((⟨b, off + s, none⟩ : Addr).add j) = some u := by
  intro j u hu
  rw [flat_int, List.getElem?_map] at hu
  obtain ⟨x, hx, rfl⟩ := Option.map_eq_some_iff.1 hu
  have hj : j < l'.length := (List.getElem?_eq_some_iff.1 hx).1
  obtain ⟨h1, h2⟩ := hs j hj
  obtain ⟨_, A', c', hv, hE⟩ := h
  obtain ⟨b', off', rfl, hb, hE⟩ := hE (by omega)
  cases hv
  have d := hE.int h1
  rw [h2, List.getD_eq_getElem?_getD, hx] at d
  rw [addr_add, Nat.add_assoc]
  exact d
theorem own_empty (W : World) (e : TypeId) : (W.alloc (.cells #[] e)).ownsRow W.heap.size e 1 (.slice (some ⟨W.heap.size, 0, none⟩) 0 0) 0 [] :=
  ⟨rfl, .inr ⟨W.heap.size, 0, #[], rfl, Nat.le_refl _, Row.new W e [], Nat.le_refl _, by unfold maxLen; omega, rfl, rfl⟩⟩
end Go.Proofs.Ytlbnbginippjfaa
