import Derived.Test.YtlenfjpogmmfhaaEpK
namespace Fk
theorem sel_len (l : List Ep) (o t : Int) : (selL l o t).length ≤ l.length := List.length_filter_le _ _
theorem sel_sel (l : List Ep) (o t : Int) : selL (selL l o t) o t = selL l o t := by
  unfold selL; rw [List.filter_filter]; congr 1; funext x; simp
theorem good_mem {l : List Ep} (h : allGood l) {x : Ep} (hx : x ∈ l) : epOK x := by
  obtain ⟨i, hi, rfl⟩ := List.getElem_of_mem hx
  have := (h i hi).1
  rwa [List.getD_eq_getElem?_getD, List.getElem?_eq_getElem hi] at this
theorem good_of {l : List Ep} (h1 : ∀ x ∈ l, epOK x) (h2 : l.Pairwise epLt) : allGood l := by
  intro i hi
  have e : ∀ j (hj : j < l.length), l.getD j default = l[j] := fun j hj => by rw [List.getD_eq_getElem?_getD, List.getElem?_eq_getElem hj]; rfl
  refine ⟨by rw [e i hi]; exact h1 _ (List.getElem_mem _), fun h0 => ?_⟩
  rw [e i hi, e (i - 1) (by omega)]
  exact (List.pairwise_iff_getElem.1 h2) (i - 1) i (by omega) hi (by omega)
theorem sel_good {l : List Ep} (h : allGood l) (o t : Int) : allGood (selL l o t) :=
  good_of (fun _ hx => good_mem h (List.mem_filter.1 hx).1) ((good_pairwise h).sublist List.filter_sublist)
theorem chk_sel {l : List Ep} (h : chkE l = 0) (o t : Int) : chkE (selL l o t) = 0 := by
  have h1 : ¬ 256 < l.length := fun hc => by rw [chkE_long hc] at h; omega
  exact chkE_good (by have := sel_len l o t; omega) (sel_good (chkE_zero h) o t)
theorem keyE_zero {l : List Ep} {o t : Int} (h : keyE l o t = 0) : chkE l = 0 ∧ argsOK o t := by
  unfold keyE at h
  split at h
  · rename_i hc
    split at h
    · rename_i ha; exact ⟨hc, ha⟩
    · omega
  · rename_i hc; exact absurd h hc
theorem later_ok {l : List Ep} {o t : Int} (h : keyE l o t = 0) : keyC l o t = lastK (selL l o t) ∧ okC l o t = !(selL l o t).isEmpty := by
  obtain ⟨hc, ha⟩ := keyE_zero h
  unfold keyC okC
  rw [if_pos ⟨hc, ha⟩, if_pos ⟨hc, ha⟩]
  unfold keyV okV
  rw [upTo_sel (chkE_zero hc)]
  exact ⟨rfl, rfl⟩
theorem later_less {l : List Ep} {o t : Int} (h : keyE l o t = 0) : keyE (selL l o t) o t = 0 ∧ keyC (selL l o t) o t = keyC l o t ∧ okC (selL l o t) o t = okC l o t := by
  obtain ⟨hc, ha⟩ := keyE_zero h
  have hz : keyE (selL l o t) o t = 0 := by unfold keyE; rw [if_pos (chk_sel hc o t), if_pos ha]
  obtain ⟨e1, e2⟩ := later_ok hz
  obtain ⟨e3, e4⟩ := later_ok h
  rw [sel_sel] at e1 e2
  exact ⟨hz, e1.trans e3.symm, e2.trans e4.symm⟩
theorem later_err {l : List Ep} {o t : Int} (h : keyE l o t ≠ 0) : keyC l o t = 0 ∧ okC l o t = false := by
  have hn : ¬ (chkE l = 0 ∧ argsOK o t) := fun ⟨hc, ha⟩ => h (by unfold keyE; rw [if_pos hc, if_pos ha])
  unfold keyC okC
  rw [if_neg hn, if_neg hn]; exact ⟨rfl, rfl⟩
theorem lastK_get {l : List Ep} (h : 0 < l.length) : lastK l = (l.getD (l.length - 1) default).k := by
  unfold lastK
  rw [List.getLast?_eq_getElem?, List.getD_eq_getElem?_getD, List.getElem?_eq_getElem (by omega)]
  rfl
end Fk
