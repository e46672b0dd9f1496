import Derived.Test.YtlbnbginippjfaaEp
namespace Fk
/-! ### the key of an office at a time -/
def ofL (l : List Ep) (o : Int) : List Ep := l.filter fun x => x.o == o
def upTo (l : List Ep) (o t : Int) : List Ep := (ofL l o).takeWhile fun x => decide (x.f ≤ t)
def lastK (l : List Ep) : Int := (l.getLast?.map (·.k)).getD 0
def keyV (l : List Ep) (o t : Int) : Int := lastK (upTo l o t)
def okV (l : List Ep) (o t : Int) : Bool := !(upTo l o t).isEmpty
theorem ofL_snoc (l : List Ep) (o : Int) (x : Ep) : ofL (l ++ [x]) o = if x.o == o then ofL l o ++ [x] else ofL l o := by
  unfold ofL
  rw [List.filter_append]
  by_cases h : (x.o == o) = true
  · rw [if_pos h]; simp [h]
  · rw [if_neg h]; simp [h]
theorem take_snocD {α : Type} [Inhabited α] {l : List α} {k : Nat} (h : k < l.length) : l.take (k + 1) = l.take k ++ [l.getD k default] := by
  rw [List.take_succ_eq_append_getElem h]
  simp [h]
theorem ofL_prefix (l : List Ep) (o : Int) (k : Nat) : ofL (l.take k) o <+: ofL l o := by
  have : ofL l o = ofL (l.take k) o ++ ofL (l.drop k) o := by
    unfold ofL; rw [← List.filter_append, List.take_append_drop]
  exact ⟨_, this.symm⟩
/-- the element that is yielded next -/
theorem ofL_next {l : List Ep} {o : Int} {k : Nat} (h : k < l.length) (hx : ((l.getD k default).o == o) = true) : (ofL l o)[(ofL (l.take k) o).length]? = some (l.getD k default) := by
  obtain ⟨r, hr⟩ := ofL_prefix l o (k + 1)
  rw [take_snocD h, ofL_snoc, if_pos hx] at hr
  rw [← hr]
  simp
theorem takeWhile_take {α : Type} (p : α → Bool) : ∀ (l : List α) (j : Nat), (∀ i x, i < j → l[i]? = some x → p x = true) → (∀ x, l[j]? = some x → p x = false) → l.takeWhile p = l.take j
  | [], j, _, _ => by simp
  | a :: l, 0, _, h => by simp [h a (by simp)]
  | a :: l, j + 1, h, h' => by
    rw [List.takeWhile_cons, if_pos (h 0 a (by omega) (by simp)), List.take_succ_cons, takeWhile_take p l j (fun i x hi hx => h (i + 1) x (by omega) (by simpa using hx)) (fun x hx => h' x (by simpa using hx))]
theorem lastK_snoc (l : List Ep) (x : Ep) : lastK (l ++ [x]) = x.k := by simp [lastK]
def argsOK (o t : Int) : Prop := 0 ≤ o ∧ 0 ≤ t ∧ o < 24 ∧ t < 2097152
noncomputable def keyC (l : List Ep) (o t : Int) : Int := open Classical in if chkE l = 0 ∧ argsOK o t then keyV l o t else 0
noncomputable def okK (l : List Ep) (o t : Int) : Bool := open Classical in if chkE l = 0 ∧ argsOK o t then okV l o t else false
noncomputable def keyE (l : List Ep) (o t : Int) : Int := open Classical in if chkE l = 0 then (if argsOK o t then 0 else 1) else chkE l

/-! ### in form: the order of the epochs -/
theorem epLt_trans {a b c : Ep} (h : epLt a b) (h' : epLt b c) : epLt a c := by unfold epLt at *; omega
theorem good_lt {l : List Ep} (h : allGood l) : ∀ j i, i < j → j < l.length → epLt (l.getD i default) (l.getD j default)
  | 0, i, hi, _ => by omega
  | j + 1, i, hi, hj => by
    have h1 := (h (j + 1) hj).2 (by omega)
    rw [Nat.add_sub_cancel] at h1
    rcases Nat.lt_or_ge i j with h2 | h2
    · exact epLt_trans (good_lt h j i h2 (by omega)) h1
    · obtain rfl : i = j := by omega
      exact h1
theorem good_pairwise {l : List Ep} (h : allGood l) : l.Pairwise epLt := by
  rw [List.pairwise_iff_getElem]
  intro i j hi hj hij
  have := good_lt h j i hij hj
  rwa [List.getD_eq_getElem?_getD, List.getElem?_eq_getElem hi, List.getD_eq_getElem?_getD, List.getElem?_eq_getElem hj] at this
theorem ofL_pairwise {l : List Ep} (h : allGood l) (o : Int) : (ofL l o).Pairwise fun a b => a.f < b.f := by
  have h1 : (ofL l o).Pairwise epLt := (good_pairwise h).sublist List.filter_sublist
  refine List.Pairwise.imp_of_mem ?_ h1
  intro a b ha hb hab
  have e1 : a.o = o := by simpa using (List.mem_filter.1 ha).2
  have e2 : b.o = o := by simpa using (List.mem_filter.1 hb).2
  unfold epLt at hab; omega
theorem takeWhile_filter {t : Int} : ∀ {l : List Ep}, (l.Pairwise fun a b => a.f < b.f) → l.takeWhile (fun x => decide (x.f ≤ t)) = l.filter (fun x => decide (x.f ≤ t))
  | [], _ => rfl
  | a :: l, h => by
    rw [List.pairwise_cons] at h
    by_cases ha : a.f ≤ t
    · rw [List.takeWhile_cons, if_pos (by simpa using ha), List.filter_cons, if_pos (by simpa using ha), takeWhile_filter h.2]
    · rw [List.takeWhile_cons, if_neg (by simpa using ha), List.filter_cons, if_neg (by simpa using ha)]
      symm
      rw [List.filter_eq_nil_iff]
      intro b hb
      have := h.1 b hb
      simp; omega
def selL (l : List Ep) (o t : Int) : List Ep := l.filter fun x => x.o == o && decide (x.f ≤ t)
theorem selL_snoc (l : List Ep) (o t : Int) (x : Ep) : selL (l ++ [x]) o t = if x.o == o && decide (x.f ≤ t) then selL l o t ++ [x] else selL l o t := by
  unfold selL
  rw [List.filter_append]
  by_cases h : (x.o == o && decide (x.f ≤ t)) = true
  · rw [if_pos h]; simp only [List.filter_cons, h, if_true, List.filter_nil]
  · rw [if_neg h]; simp only [List.filter_cons, h, List.filter_nil]; simp
theorem upTo_sel {l : List Ep} (h : allGood l) (o t : Int) : upTo l o t = selL l o t := by
  unfold upTo selL
  rw [takeWhile_filter (ofL_pairwise h o), ofL, List.filter_filter]
  congr 1
  funext x
  rw [Bool.and_comm]
theorem lastK_ne {l : List Ep} (h : allGood l) (o t : Int) : okV l o t = (keyV l o t != 0) := by
  unfold okV keyV lastK
  cases hl : (upTo l o t).getLast? with
  | none =>
    rw [List.getLast?_eq_none_iff] at hl
    simp [hl]
  | some x =>
    have hm : x ∈ upTo l o t := List.mem_of_getLast? hl
    rw [upTo_sel h] at hm
    have hx : x ∈ l := (List.mem_filter.1 hm).1
    obtain ⟨i, hi, rfl⟩ := List.getElem_of_mem hx
    have hg := (h i hi).1
    rw [List.getD_eq_getElem?_getD, List.getElem?_eq_getElem hi] at hg
    have := vld_lo hg.2.2.2.2.2
    have hne : (upTo l o t).isEmpty = false := by
      cases hu : upTo l o t with
      | nil => rw [hu] at hl; cases hl
      | cons a r => rfl
    simp only [Option.getD_some] at this
    rw [hne]
    simp; omega
theorem chkE_zero {l : List Ep} (h : chkE l = 0) : allGood l := by
  unfold chkE at h
  split at h
  · omega
  · split at h
    · assumption
    · omega
end Fk
