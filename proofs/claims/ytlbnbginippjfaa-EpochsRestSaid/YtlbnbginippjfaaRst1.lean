import Derived.Test.YtlbnbginippjfaaRst0
namespace Go.Proofs.Ytlbnbginippjfaa
open Go.RowKit Fk
/-! What EpochsRest calls: a letter for keys whose secrets add up to S. -/
def LT (S : Int) (t q : Tr) : Se := sealC (powC 4 S) t q
theorem lt_facts (S : Int) {t : Tr} (hw : wOK t = true) (q : Tr) : LT S t q = (seal0 t).map (moreC (powC 4 S) q) ∧ sealE (powC 4 S) t = 0 ∧ okS (LT S t q) = true := sealC_ok (vld_powC vld_4 S) hw q
theorem lt_seal (S : Int) {t : Tr} (hw : wOK t = true) (q : Tr) (w : World) :
    Calls Try.prog 16 #[.int .i64 (powC 4 S), t.val, q.val] w fun e w' => e = .returned (.tuple #[(LT S t q).val, .int .i64 0]) ∧ Below w.heap.size w w' := by
  have h := seal_any (powC 4 S) t q w
  rw [(lt_facts S hw q).2.1] at h
  exact h
theorem lt_no (S : Int) {t : Tr} (hw : wOK t = false) (q : Tr) (w : World) :
    Calls Try.prog 16 #[.int .i64 (powC 4 S), t.val, q.val] w fun e w' => e = .returned (.tuple #[(LT S t q).val, .int .i64 100]) ∧ Below w.heap.size w w' := by
  have h := seal_any (powC 4 S) t q w
  rw [show sealE (powC 4 S) t = 100 by unfold sealE; rw [vld_powC vld_4, hw]; rfl] at h
  exact h
theorem lt_any (S : Int) (t q : Tr) (w : World) :
    Calls Try.prog 16 #[.int .i64 (powC 4 S), t.val, q.val] w fun e w' => e = .returned (.tuple #[(LT S t q).val, .int .i64 (if wOK t then 0 else 100)]) ∧ Below w.heap.size w w' := by
  cases hw : wOK t with
  | true => exact lt_seal S hw q w
  | false => exact lt_no S hw q w
theorem lt_strip {n : Int} (hs : secB n = true) (S : Int) {t : Tr} (hw : wOK t = true) (q : Tr) (w : World) :
    Calls Try.prog 23 #[.int .i64 n, (LT S t q).val] w fun e w' => e = .returned (.tuple #[(LT (S - n) t q).val, .int .i64 0]) ∧ Below w.heap.size w w' := by
  obtain ⟨hm, _, hA⟩ := lt_facts S hw q
  have h := strp_any n (LT S t q) w
  rw [show strpE n (LT S t q) = 0 by unfold strpE; rw [hs, if_pos rfl]; exact chS_0 hA] at h
  have hst : strpC n (LT S t q) = LT (S - n) t q := by
    unfold strpC
    rw [hs, hA, hm, (lt_facts (S - n) hw q).1]
    obtain ⟨h1, h2, h3⟩ := okS_iff.1 (seal0_ok hw)
    show ((seal0 t).map _).map _ = _
    show (⟨stripC n 0 (moreC _ q 0 ⟨1, elC t.p⟩), stripC n 1 (moreC _ q 1 ⟨1, elC t.q⟩), stripC n 2 (moreC _ q 2 ⟨1, elC t.r⟩)⟩ : Se) = ⟨moreC _ q 0 ⟨1, elC t.p⟩, moreC _ q 1 ⟨1, elC t.q⟩, moreC _ q 2 ⟨1, elC t.r⟩⟩
    have w1 : vld (elC t.p) = true := (okC_iff.1 h1).2
    have w2 : vld (elC t.q) = true := (okC_iff.1 h2).2
    have w3 : vld (elC t.r) = true := (okC_iff.1 h3).2
    rw [stripC_more w1, stripC_more w2, stripC_more w3]
  rw [hst] at h
  exact h
theorem lt_read {t : Tr} (hw : wOK t = true) (q : Tr) (w : World) :
    Calls Try.prog 24 #[(LT 0 t q).val] w fun e w' => e = .returned (.tuple #[t.val, .int .i64 0]) ∧ Below w.heap.size w w' := by
  have h := read_any (LT 0 t q) w
  obtain ⟨hm, _, hA⟩ := lt_facts 0 hw q
  have hr : readC (LT 0 t q) = t := by
    unfold readC
    rw [hA, hm]
    obtain ⟨h1, h2, h3⟩ := okS_iff.1 (seal0_ok hw)
    show (⟨numC (moreC _ q 0 ⟨1, elC t.p⟩).b, numC (moreC _ q 1 ⟨1, elC t.q⟩).b, numC (moreC _ q 2 ⟨1, elC t.r⟩).b⟩ : Tr) = t
    rw [more_nil (e := elC t.p) (okC_iff.1 h1).2, more_nil (e := elC t.q) (okC_iff.1 h2).2, more_nil (e := elC t.r) (okC_iff.1 h3).2]
    unfold wOK at hw
    simp only [Bool.and_eq_true] at hw
    obtain ⟨a, b, c⟩ := hw
    rw [num_el (elE_iff.1 a).1 (elE_iff.1 a).2, num_el (elE_iff.1 b).1 (elE_iff.1 b).2, num_el (elE_iff.1 c).1 (elE_iff.1 c).2]
  rw [hr, chS_0 hA] at h
  exact h
/-! the products of the keys -/
theorem restL_cons (x : Int) (l : List Int) : restL (pubs (x :: l)) = mulC (powC 4 x) ((restL (pubs l)).headD 0) :: restL (pubs l) := by
  unfold pubs; rw [List.map_cons, restL]
theorem headD_getD (l : List Int) : l.headD 0 = l.getD 0 default := by cases l <;> simp [default]
theorem restL_pow : ∀ (l : List Int) (k : Nat), k ≤ l.length → (restL (pubs l)).getD k default = powC 4 (l.drop k).sum
  | [], 0, _ => by
    have e : restL (pubs []) = [1] := by unfold pubs; rw [List.map_nil, restL]
    rw [e, List.getD_cons_zero, List.drop_nil, List.sum_nil, pow_0 vld_4]
  | [], (k + 1), h => absurd h (by simp)
  | x :: l, 0, _ => by
    have h := restL_pow l 0 (by omega)
    rw [restL_cons, List.getD_cons_zero, headD_getD, h, pow_add' vld_4, List.drop_zero, List.drop_zero, List.sum_cons]
  | x :: l, (k + 1), h => by
    have ih := restL_pow l k (by simpa using h)
    rw [restL_cons, List.getD_cons_succ, ih, List.drop_succ_cons]
theorem allV_pubs (l : List Int) : allV (pubs l) = true := by
  unfold allV
  rw [List.all_eq_true]
  intro x hx
  obtain ⟨n, _, rfl⟩ := List.mem_map.1 hx
  exact vld_powC vld_4 _
theorem restE_pubs {l : List Int} (h : l.length ≤ 24) : restE (pubs l) = 0 ∧ restV (pubs l) = restL (pubs l) := by
  have e : restE (pubs l) = 0 := by
    unfold restE
    rw [if_neg (by simp [pubs]; omega), if_pos (allV_pubs l)]
  exact ⟨e, by unfold restV; rw [if_pos e]⟩
theorem pubs_get {l : List Int} {k : Nat} (h : k < l.length) : (pubs l).getD k default = powC 4 (l.getD k default) := by
  unfold pubs
  rw [List.getD_eq_getElem?_getD, List.getElem?_map, List.getD_eq_getElem?_getD, List.getElem?_eq_getElem h, Option.map_some, Option.getD_some, Option.getD_some]
theorem drop_sum {l : List Int} {k : Nat} (h : k < l.length) : (l.drop k).sum = l.getD k default + (l.drop (k + 1)).sum := by
  rw [drop_consD h, List.sum_cons]
theorem mulE_pow (a b : Int) : mulE (powC 4 a) (powC 4 b) = 0 := by simp [mulE, vld_powC vld_4]
/-- what is left: from k to below m -/
def mid (l : List Int) (k m : Nat) : Int := ((l.drop k).take (m - k)).sum
theorem mid_all (l : List Int) (k : Nat) : mid l k l.length = (l.drop k).sum := by
  unfold mid
  rw [List.take_of_length_le (by simp)]
theorem mid_self (l : List Int) (k : Nat) : mid l k k = 0 := by unfold mid; rw [Nat.sub_self]; rfl
theorem mid_step {l : List Int} {k m : Nat} (h : k ≤ m) (hm : m < l.length) : mid l k (m + 1) - l.getD m default = mid l k m := by
  unfold mid
  rw [show m + 1 - k = (m - k) + 1 by omega, List.take_add_one, List.sum_append, List.getElem?_drop, show k + (m - k) = m by omega, List.getElem?_eq_getElem hm, List.getD_eq_getElem?_getD, List.getElem?_eq_getElem hm]
  simp
end Go.Proofs.Ytlbnbginippjfaa
