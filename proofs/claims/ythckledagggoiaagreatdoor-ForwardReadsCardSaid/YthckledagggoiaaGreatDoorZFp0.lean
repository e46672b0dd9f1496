import Derived.Test.YthckledagggoiaaGreatDoorZFs6
set_option linter.unusedSimpArgs false
set_option linter.unusedVariables false
namespace Go.Proofs.YthckledagggoiaaGreatDoor
open Go.RowKit Go.MapKept Go.Shelf Fk Sha
/-! What Where answers lies in its bounds. -/
theorem deskL_some {X : List En} {k a : Int} {x : En} (h : deskL X k a = some x) : x ∈ X ∧ x.kind = k ∧ x.a = a := by
  have aux : ∀ (X : List En) (D : Int → Int → Option En), X.foldl (fun D y => upd2 D y.kind y.a y) D k a = some x → D k a = some x ∨ (x ∈ X ∧ x.kind = k ∧ x.a = a) := by
    intro X
    induction X with
    | nil => intro D h; exact .inl h
    | cons y X ih =>
      intro D h
      rcases ih _ h with h1 | h1
      · by_cases hc : k = y.kind ∧ a = y.a
        · have h2 : (if k = y.kind ∧ a = y.a then some y else D k a) = some x := h1
          rw [if_pos hc] at h2
          cases h2
          exact .inr ⟨List.mem_cons_self, hc.1.symm, hc.2.symm⟩
        · have h2 : (if k = y.kind ∧ a = y.a then some y else D k a) = some x := h1
          rw [if_neg hc] at h2; exact .inl h2
      · exact .inr ⟨List.mem_cons_of_mem _ h1.1, h1.2⟩
  rcases aux X _ h with h1 | h1
  · cases h1
  · exact h1
theorem standX_sub {l : List En} {day time : Int} {x : En} (h : x ∈ standX l day time) : x ∈ l := by
  unfold standX at h
  split at h
  · unfold standL cntL at h
    exact (List.mem_filter.1 (List.mem_filter.1 h).1).1
  · cases h
theorem stE_chk {l : List En} {day time : Int} (h : stE l day time = 0) : chkE l = 0 := by
  unfold stE at h
  by_cases hc : chkE l = 0
  · exact hc
  · rw [if_neg hc] at h; exact h
theorem openE_is {l : List En} {p day time : Int} (h : openE l p day time = 0) : stE l day time = 0 ∧ (0 ≤ p ∧ p ≤ 1048576) := by
  unfold openE at h
  by_cases hs : stE l day time = 0
  · rw [if_pos hs] at h
    cases hp : idB p with
    | false => rw [hp] at h; simp at h
    | true =>
      unfold idB at hp
      simp only [Bool.and_eq_true, decide_eq_true_eq] at hp
      exact ⟨hs, hp⟩
  · rw [if_neg hs] at h; exact absurd h hs
theorem endF_bd {D : Int → Option En} {P : Int → Prop} (hD : ∀ p x, D p = some x → P x.b) : ∀ (n : Nat) (p : Int) (met : List Int), P p → P (endF D n p met).1 := by
  intro n
  induction n with
  | zero => intro p met h; exact h
  | succ n ih =>
    intro p met h
    unfold endF
    cases hp : D p with
    | none => exact h
    | some x =>
      simp only
      split
      · exact h
      · exact ih _ _ (hD p x hp)
theorem okTo_valid : ∀ (l : List En) (last : Int), okTo last l = true → ∀ x ∈ l, validB x = true
  | [], _, _, x, hx => by cases hx
  | y :: l, last, h, x, hx => by
    unfold okTo at h
    simp only [Bool.and_eq_true] at h
    rcases List.mem_cons.1 hx with rfl | hx
    · exact h.1
    · exact okTo_valid l _ h.2.2 x hx
theorem chk_valid {l : List En} (h : chkE l = 0) {x : En} (hx : x ∈ l) : validB x = true := by
  unfold chkE at h
  split at h
  · cases h
  · split at h
    · rename_i h2; exact okTo_valid l _ h2 x hx
    · cases h
theorem valid_1 {x : En} (h : validB x = true) (hk : x.kind = 1) : 0 ≤ x.b ∧ x.b < 24 := by
  unfold validB kindB livesB at h
  rw [hk, if_pos rfl] at h
  simp only [Bool.and_eq_true, decide_eq_true_eq] at h
  exact h.1
theorem valid_2 {x : En} (h : validB x = true) (hk : x.kind = 2) : 0 ≤ x.b ∧ x.b ≤ 1048576 := by
  unfold validB kindB agentB idB at h
  rw [hk, if_neg (by decide), if_pos rfl] at h
  simp only [Bool.and_eq_true, decide_eq_true_eq] at h
  exact h.1.2
theorem whereH_bd {en : List En} {p day time : Int} (ho : openE en p day time = 0) :
    (1 ≤ (whereH en p day time).1 ∧ (whereH en p day time).1 ≤ 3) ∧ (0 ≤ (whereH en p day time).2.1 ∧ (whereH en p day time).2.1 ≤ 1048576) ∧ (0 ≤ (whereH en p day time).2.2 ∧ (whereH en p day time).2.2 < 24) := by
  obtain ⟨hs, hp⟩ := openE_is ho
  have hc := stE_chk hs
  have hv : ∀ x ∈ standX en day time, validB x = true := fun x hx => chk_valid hc (standX_sub hx)
  have hq : 0 ≤ (endL (standX en day time) p).1 ∧ (endL (standX en day time) p).1 ≤ 1048576 :=
    endF_bd (P := fun q => 0 ≤ q ∧ q ≤ 1048576) (fun a x h => by
      obtain ⟨h1, h2, _⟩ := deskL_some h
      exact valid_2 (hv x h1) h2) _ p [p] hp
  unfold whereH
  rw [if_pos ho]
  obtain ⟨q, hqe⟩ : ∃ q, endL (standX en day time) p = q := ⟨_, rfl⟩
  rw [hqe] at hq ⊢
  have d1 : (1 : Int) ≤ 1 ∧ (1 : Int) ≤ 3 := by decide
  have d2 : (1 : Int) ≤ 2 ∧ (2 : Int) ≤ 3 := by decide
  have d3 : (1 : Int) ≤ 3 ∧ (3 : Int) ≤ 3 := by decide
  have z0 : (0 : Int) ≤ 0 ∧ (0 : Int) < 24 := by decide
  unfold whereD
  split
  · exact ⟨d2, hp, z0⟩
  · split
    · exact ⟨d3, hq, z0⟩
    · split
      · rename_i h1
        cases hd : deskL (standX en day time) 1 q.1 with
        | none => rw [hd] at h1; cases h1
        | some x =>
          obtain ⟨h2, h3, _⟩ := deskL_some hd
          exact ⟨d1, hq, valid_1 (hv x h2) h3⟩
      · exact ⟨d2, hq, z0⟩
theorem home_ok {t : Int × Int × Int} (h : (1 ≤ t.1 ∧ t.1 ≤ 3) ∧ (0 ≤ t.2.1 ∧ t.2.1 ≤ 1048576) ∧ (0 ≤ t.2.2 ∧ t.2.2 < 24)) : okN t.1 ∧ okN t.2.1 ∧ okN t.2.2 := by
  unfold okN
  omega
/-- in whatever state Next answers, what it answers is in bounds -/
theorem nextR_wf (l : List Lx) (n : Int) (keys : List Int) (s : Int) (en : List En) (people office al day time r : Int) : (nextR l n keys s en people office al day time r).1.ok := by
  have hb := nextR_ok l n keys s en people office al day time r
  have key : ∀ x : Fw, backOK x → okN x.k ∧ okN x.p ∧ okN x.o → x.ok := fun x h1 h2 => ⟨h2.1, h2.2.1, h2.2.2, h1.1, h1.2.1, h1.2.2.1, h1.2.2.2.1, h1.2.2.2.2⟩
  refine key _ hb ?_
  clear hb key
  have z : okN 0 := by unfold okN; omega
  unfold nextR
  split
  · exact ⟨z, z, z⟩
  · split
    · exact ⟨z, z, z⟩
    · split
      · exact ⟨z, z, z⟩
      · split
        · exact ⟨z, z, z⟩
        · rename_i ho
          have hh := whereH_bd (en := en) (p := (findV s people office al).1) (day := day) (time := time) (Classical.byContradiction ho)
          have ht := home_ok hh
          unfold moreR
          split
          · exact ht
          · split
            · exact ⟨(show okN 2 by unfold okN; omega), ht.2.1, z⟩
            · split
              · exact ⟨z, z, z⟩
              · exact ht
end Go.Proofs.YthckledagggoiaaGreatDoor
