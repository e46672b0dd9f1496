import Derived.Test.YtlbnbginippjfaaLawL3
import Derived.Test.YtlbnbginippjfaaElK
namespace Go.Proofs.Ytlbnbginippjfaa
open Go.RowKit Fk
/-! What ElgamalOpens calls: a letter for the secrets L. -/
def LS (L : List Int) (t q : Tr) : Se := sealC (joinC (pubs L)) t q
theorem vld_join (L : List Int) : vld (joinC (pubs L)) = true := by rw [join_pow]; exact vld_powC vld_4 _
theorem ls_ok {L : List Int} {t : Tr} (hw : wOK t = true) (q : Tr) : okS (LS L t q) = true := (sealC_ok (vld_join L) hw q).2.2
theorem ls_map {L : List Int} {t : Tr} (hw : wOK t = true) (q : Tr) : LS L t q = (seal0 t).map (moreC (joinC (pubs L)) q) := (sealC_ok (vld_join L) hw q).1
theorem ls_seal (L : List Int) {t : Tr} (hw : wOK t = true) (q : Tr) (w : World) :
    Calls Try.prog 16 #[.int .i64 (joinC (pubs L)), t.val, q.val] w fun e w' => e = .returned (.tuple #[(LS L t q).val, .int .i64 0]) ∧ Below w.heap.size w w' := by
  have h := seal_any (joinC (pubs L)) t q w
  rw [(sealC_ok (vld_join L) hw q).2.1] at h
  exact h
theorem ls_again (L : List Int) {t : Tr} (hw : wOK t = true) (q p : Tr) (w : World) :
    Calls Try.prog 18 #[.int .i64 (joinC (pubs L)), (LS L t q).val, p.val] w fun e w' => e = .returned (.tuple #[(LS L t (sumT q p)).val, .int .i64 0]) ∧ Below w.heap.size w w' := by
  have h := again_any (joinC (pubs L)) (LS L t q) p w
  obtain ⟨e1, e2, _⟩ := againC_ok (vld_join L) (ls_ok (L := L) hw q) p
  rw [e2, e1] at h
  rw [ls_map hw (sumT q p), ← map_more (vld_join L) (seal0_ok hw) q p, ← ls_map hw q]
  exact h
theorem ls_strip {L : List Int} (hok : rightB L = true) {k : Nat} (hk : k < L.length) {t : Tr} (hw : wOK t = true) (q : Tr) (w : World) :
    Calls Try.prog 23 #[.int .i64 (L.getD k default), (LS L t q).val] w fun e w' => e = .returned (.tuple #[(LS (L.take k ++ L.drop (k + 1)) t q).val, .int .i64 0]) ∧ Below w.heap.size w w' := by
  have hs : secB (L.getD k default) = true := by
    unfold rightB at hok
    simp only [Bool.and_eq_true, decide_eq_true_eq, List.all_eq_true] at hok
    refine hok.1 _ ?_
    rw [List.getD_eq_getElem?_getD, List.getElem?_eq_getElem hk]
    exact List.getElem_mem _
  have hA := ls_ok (L := L) hw q
  have h := strp_any (L.getD k default) (LS L t q) w
  rw [show strpE (L.getD k default) (LS L t q) = 0 by unfold strpE; rw [hs, if_pos rfl]; exact chS_0 hA] at h
  have hst : strpC (L.getD k default) (LS L t q) = LS (L.take k ++ L.drop (k + 1)) t q := by
    unfold strpC
    rw [hs, hA, ls_map hw, ls_map hw, join_pow, join_pow, sum_but hk]
    generalize (L.take k ++ L.drop (k + 1)).sum = S
    generalize L.getD k default = n
    obtain ⟨h1, h2, h3⟩ := okS_iff.1 (seal0_ok hw)
    show ((seal0 t).map _).map _ = _
    have e : S = S + n - n := by omega
    conv => rhs; rw [e]
    show (⟨stripC n 0 (moreC _ q 0 ⟨1, elC t.p⟩), stripC n 1 (moreC _ q 1 ⟨1, elC t.q⟩), stripC n 2 (moreC _ q 2 ⟨1, elC t.r⟩)⟩ : Se) = ⟨moreC _ q 0 ⟨1, elC t.p⟩, moreC _ q 1 ⟨1, elC t.q⟩, moreC _ q 2 ⟨1, elC t.r⟩⟩
    have w1 : vld (elC t.p) = true := (okC_iff.1 h1).2
    have w2 : vld (elC t.q) = true := (okC_iff.1 h2).2
    have w3 : vld (elC t.r) = true := (okC_iff.1 h3).2
    rw [stripC_more w1, stripC_more w2, stripC_more w3]
  rw [hst] at h
  exact h
theorem more_nil {e : Int} (he : vld e = true) (q : Tr) (i : Nat) : (moreC (joinC (pubs [])) q i ⟨1, e⟩).b = e := by
  unfold moreC
  show e * powC (joinC (pubs [])) (q.get i) % 2147483579 = e
  rw [join_pow, pow_mul' vld_4, show ([] : List Int).sum = 0 from rfl, Int.zero_mul]
  exact times_pow0 vld_4 he
theorem ls_read {t : Tr} (hw : wOK t = true) (q : Tr) (w : World) :
    Calls Try.prog 24 #[(LS [] t q).val] w fun e w' => e = .returned (.tuple #[t.val, .int .i64 0]) ∧ Below w.heap.size w w' := by
  have h := read_any (LS [] t q) w
  have hA := ls_ok (L := []) hw q
  have hr : readC (LS [] t q) = t := by
    unfold readC
    rw [hA, ls_map hw]
    obtain ⟨h1, h2, h3⟩ := okS_iff.1 (seal0_ok hw)
    show (⟨numC (moreC _ q 0 ⟨1, elC t.p⟩).b, numC (moreC _ q 1 ⟨1, elC t.q⟩).b, numC (moreC _ q 2 ⟨1, elC t.r⟩).b⟩ : Tr) = t
    rw [more_nil (e := elC t.p) (okC_iff.1 h1).2, more_nil (e := elC t.q) (okC_iff.1 h2).2, more_nil (e := elC t.r) (okC_iff.1 h3).2]
    unfold wOK at hw
    simp only [Bool.and_eq_true] at hw
    obtain ⟨a, b, c⟩ := hw
    rw [num_el (elE_iff.1 a).1 (elE_iff.1 a).2, num_el (elE_iff.1 b).1 (elE_iff.1 b).2, num_el (elE_iff.1 c).1 (elE_iff.1 c).2]
  rw [hr, chS_0 hA] at h
  exact h
theorem ls_check {t : Tr} (hw : wOK t = true) (q : Tr) (w : World) :
    Calls Try.prog 25 #[(LS [] t q).val] w fun e w' => e = .returned (.int .i64 0) ∧ Below w.heap.size w w' := by
  have h := echeck_any (LS [] t q) w
  rw [chS_0 (ls_ok hw q)] at h
  exact h
end Go.Proofs.Ytlbnbginippjfaa
