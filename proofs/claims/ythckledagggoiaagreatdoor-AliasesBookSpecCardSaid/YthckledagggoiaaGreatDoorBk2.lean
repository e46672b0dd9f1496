import Derived.Test.YthckledagggoiaaGreatDoorBk
set_option linter.unusedSimpArgs false
set_option linter.unusedVariables false
namespace Go.Proofs.YthckledagggoiaaGreatDoor
open Go.RowKit Fk
/-! The first entry of a kind about a person. -/
def findP (X : List En) (k a : Int) (i : Nat) : Bool := decide ((X.getD i default).kind = k ∧ (X.getD i default).a = a)
def findN (X : List En) (k a : Int) : Option Nat := (List.range X.length).find? (findP X k a)
def optZ : Option Nat → Int
  | some i => i
  | none => -1
theorem findN_some {X : List En} {k a : Int} {i : Nat} (h : i < X.length) (hi : findP X k a i = true) (hb : ∀ q, q < i → findP X k a q = false) : findN X k a = some i := by
  unfold findN
  rw [List.find?_range_eq_some]
  exact ⟨hi, by simpa using h, fun j hj => by rw [hb j hj]; rfl⟩
theorem findN_none {X : List En} {k a : Int} (hb : ∀ q, q < X.length → findP X k a q = false) : findN X k a = none := by
  unfold findN
  rw [List.find?_range_eq_none]
  exact fun j hj => by rw [hb j hj]; rfl
theorem findN_is {X : List En} {k a : Int} {i : Nat} (h : findN X k a = some i) : i < X.length ∧ (X.getD i default).kind = k ∧ (X.getD i default).a = a := by
  unfold findN at h
  rw [List.find?_range_eq_some] at h
  obtain ⟨h1, h2, _⟩ := h
  unfold findP at h1
  rw [decide_eq_true_eq] at h1
  exact ⟨by simpa using h2, h1.1, h1.2⟩
theorem findN_no {X : List En} {k a : Int} (h : findN X k a = none) : ∀ x, x ∈ X → ¬ (x.kind = k ∧ x.a = a) := by
  unfold findN at h
  rw [List.find?_range_eq_none] at h
  intro x hx
  obtain ⟨i, hi, rfl⟩ := List.getElem_of_mem hx
  have := h i hi
  unfold findP at this
  rw [List.getD_eq_getElem?_getD, List.getElem?_eq_getElem hi, Bool.not_eq_true', decide_eq_false_iff_not] at this
  exact this
theorem deskL_is : ∀ (n : Nat) (X : List En), X.length = n → ∀ {k a : Int}, (∀ m, deskL X k a = some m → m ∈ X ∧ m.kind = k ∧ m.a = a) ∧ (deskL X k a = none → ∀ x, x ∈ X → ¬ (x.kind = k ∧ x.a = a)) := by
  intro n
  induction n with
  | zero =>
    intro X hl k a
    obtain rfl : X = [] := List.eq_nil_of_length_eq_zero hl
    exact ⟨fun m h => (by cases h), fun _ x hx => (by simp at hx)⟩
  | succ n ih =>
    intro X hl k a
    obtain ⟨A, y, rfl⟩ : ∃ A y, X = A ++ [y] := ⟨X.dropLast, X.getLast (by intro e; rw [e] at hl; simp at hl), (List.dropLast_concat_getLast _).symm⟩
    have hA : A.length = n := by simpa using hl
    obtain ⟨i1, i2⟩ := ih A hA (k := k) (a := a)
    rw [deskL_snoc]
    by_cases hc : k = y.kind ∧ a = y.a
    · have e : upd2 (deskL A) y.kind y.a y k a = some y := if_pos hc
      rw [e]
      exact ⟨fun m h => (by cases h; exact ⟨by simp, hc.1.symm, hc.2.symm⟩), fun h => (by cases h)⟩
    · have e : upd2 (deskL A) y.kind y.a y k a = deskL A k a := if_neg hc
      rw [e]
      refine ⟨fun m h => ?_, fun h x hx => ?_⟩
      · obtain ⟨h1, h2⟩ := i1 m h
        exact ⟨List.mem_append_left _ h1, h2⟩
      · rcases List.mem_append.1 hx with h1 | h1
        · exact i2 h x h1
        · rw [List.mem_singleton] at h1; subst h1
          exact fun h3 => hc ⟨h3.1.symm, h3.2.symm⟩
theorem desk_isSome (X : List En) (k a : Int) : (deskL X k a).isSome = (findN X k a).isSome := by
  obtain ⟨i1, i2⟩ := deskL_is X.length X rfl (k := k) (a := a)
  cases hf : findN X k a with
  | none =>
    cases hd : deskL X k a with
    | none => rfl
    | some m => obtain ⟨h1, h2, h3⟩ := i1 m hd; exact absurd ⟨h2, h3⟩ (findN_no hf m h1)
  | some i =>
    obtain ⟨h1, h2, h3⟩ := findN_is hf
    cases hd : deskL X k a with
    | none => exact absurd ⟨h2, h3⟩ (i2 hd _ (by rw [List.getD_eq_getElem?_getD, List.getElem?_eq_getElem h1]; exact List.getElem_mem h1))
    | some m => rfl
theorem stand_uniq {l : List En} {day time : Int} {x y : En} (hx : x ∈ standL l day time) (hy : y ∈ standL l day time) (hk : x.kind = 1 ∨ x.kind = 2) (h1 : x.kind = y.kind) (h2 : x.a = y.a) : x = y := by
  unfold standL at hx hy
  have kx := (List.mem_filter.1 hx).2
  have ky := (List.mem_filter.1 hy).2
  have ox : oneB x = true := by unfold oneB; rcases hk with h | h <;> rw [h] <;> rfl
  have oy : oneB y = true := by unfold oneB; rw [← h1]; rcases hk with h | h <;> rw [h] <;> rfl
  unfold keepB at kx ky
  rw [ox, Bool.not_true, Bool.false_or, decide_eq_true_eq] at kx
  rw [oy, Bool.not_true, Bool.false_or, decide_eq_true_eq, ← h1, ← h2] at ky
  exact kx.symm.trans ky
theorem desk_find {l : List En} {day time k a : Int} (hk : k = 1 ∨ k = 2) {i : Nat} (h : findN (standX l day time) k a = some i) : deskL (standX l day time) k a = some ((standX l day time).getD i default) := by
  obtain ⟨h1, h2, h3⟩ := findN_is h
  obtain ⟨i1, i2⟩ := deskL_is (standX l day time).length (standX l day time) rfl (k := k) (a := a)
  have hmem : (standX l day time).getD i default ∈ standX l day time := by rw [List.getD_eq_getElem?_getD, List.getElem?_eq_getElem h1]; exact List.getElem_mem h1
  cases hd : deskL (standX l day time) k a with
  | none => exact absurd ⟨h2, h3⟩ (i2 hd _ hmem)
  | some m =>
    obtain ⟨m1, m2, m3⟩ := i1 m hd
    unfold standX at m1 hmem ⊢
    by_cases hs : stE l day time = 0
    · rw [if_pos hs] at m1
      have hmem' : (standL l day time).getD i default ∈ standL l day time := by
        have := hmem; rw [if_pos hs] at this; exact this
      rw [if_pos hs]
      have h2' : ((standL l day time).getD i default).kind = k := by have := h2; unfold standX at this; rw [if_pos hs] at this; exact this
      have h3' : ((standL l day time).getD i default).a = a := by have := h3; unfold standX at this; rw [if_pos hs] at this; exact this
      congr 1
      exact stand_uniq m1 hmem' (by rw [m2]; exact hk) (by rw [m2, h2']) (by rw [m3, h3'])
    · rw [if_neg hs] at m1; simp at m1
end Go.Proofs.YthckledagggoiaaGreatDoor
