import Derived.Test.YthckledagggoiaaGreatDoorHm5
set_option linter.unusedSimpArgs false
set_option linter.unusedVariables false
namespace Go.Proofs.YthckledagggoiaaGreatDoor
open Go.RowKit Go.MapKept Go.Shelf Fk
/-! homes.Where in plain words. -/
def endF (D : Int → Option En) : Nat → Int → List Int → Int × Bool
  | 0, p, _ => (p, false)
  | n + 1, p, met => match D p with
    | none => (p, false)
    | some x => if x.b ∈ met then (p, true) else endF D n x.b (x.b :: met)
theorem chain_end (D : Int → Option En) (L : List Int) (hL : ∀ p x, D p = some x → p ∈ L) : ∀ (n : Nat) (p : Int) (met : List Int), 2 * left L met + (if p ∈ L then 1 else 0) < n → ∃ r, Chain D p met r ∧ r.getLast? = some (endF D n p met) := by
  intro n
  induction n with
  | zero => intro p met h; omega
  | succ n ih =>
    intro p met h
    unfold endF
    cases hp : D p with
    | none => exact ⟨_, .stop hp, rfl⟩
    | some x =>
      by_cases hm : x.b ∈ met
      · exact ⟨_, .circle hp hm, by simp only [if_pos hm]; rfl⟩
      · rw [if_pos (hL p x hp)] at h
        have hn : 2 * left L (x.b :: met) + (if x.b ∈ L then 1 else 0) < n := by
          by_cases hq : x.b ∈ L
          · have := left_lt hq hm
            rw [if_pos hq]; omega
          · have := left_le L met x.b
            rw [if_neg hq]; omega
        obtain ⟨r, hr, hq⟩ := ih x.b (x.b :: met) hn
        refine ⟨_, .step hp hm hr, ?_⟩
        simp only [if_neg hm]
        rw [List.getLast?_cons, hq]; rfl
theorem deskL_mem (X : List En) (k a : Int) (x : En) (h : deskL X k a = some x) : a ∈ X.map (·.a) := by
  have aux : ∀ (X : List En) (D : Int → Int → Option En), X.foldl (fun D y => upd2 D y.kind y.a y) D k a = some x → D k a = some x ∨ a ∈ X.map (·.a) := by
    intro X
    induction X with
    | nil => intro D h; exact .inl h
    | cons y X ih =>
      intro D h
      rcases ih _ h with h1 | h1
      · by_cases hc : k = y.kind ∧ a = y.a
        · exact .inr (by rw [List.map_cons, hc.2]; exact List.mem_cons_self)
        · have h2 : (if k = y.kind ∧ a = y.a then some y else D k a) = some x := h1
          rw [if_neg hc] at h2; exact .inl h2
      · exact .inr (List.mem_cons_of_mem _ h1)
  rcases aux X _ h with h1 | h1
  · cases h1
  · exact h1
theorem left_len (L met : List Int) : left L met ≤ L.length := List.length_filter_le _ _
def whereD (D : Int → Int → Option En) (p : Int) (q : Int × Bool) : Int × Int × Int :=
  if q.2 = true then (2, p, 0) else if ((D 3 q.1).isSome || (D 4 q.1).isSome) = true then (3, q.1, 0) else if (D 1 q.1).isSome = true then (1, q.1, ((D 1 q.1).getD zeroE).b) else (2, q.1, 0)
def endL (X : List En) (p : Int) : Int × Bool := endF (deskL X 2) (2 * X.length + 2) p [p]
def whereH (l : List En) (p day time : Int) : Int × Int × Int :=
  if openE l p day time = 0 then whereD (deskL (standX l day time)) p (endL (standX l day time) p) else (0, 0, 0)
theorem chain_desk (X : List En) (p : Int) : ∃ r, Chain (deskL X 2) p [p] r ∧ r.getLast? = some (endL X p) :=
  chain_end (deskL X 2) (X.map (·.a)) (fun p x h => deskL_mem X 2 p x h) (2 * X.length + 2) p [p] (by
    have := left_len (X.map (·.a)) [p]
    rw [List.length_map] at this
    split <;> omega)
abbrev hv (t : Int × Int × Int) : Value := homeV t.1 t.2.1 t.2.2
/-- what t11 and t12 hold after k rounds -/
def lastQ (p : Int) (l : List (Int × Bool)) (k : Nat) : Int × Bool := ((l.take k).getLast?).getD (p, false)
theorem lastQ_succ (p : Int) {l : List (Int × Bool)} {k : Nat} {q : Int × Bool} (h : l[k]? = some q) : lastQ p l (k + 1) = q := by
  unfold lastQ
  rw [List.take_add_one, h, Option.toList_some, List.getLast?_append]; simp
theorem lastQ_all (p : Int) {l : List (Int × Bool)} {q : Int × Bool} (h : l.getLast? = some q) : lastQ p l l.length = q := by
  unfold lastQ
  rw [List.take_length, h]; rfl
end Go.Proofs.YthckledagggoiaaGreatDoor
