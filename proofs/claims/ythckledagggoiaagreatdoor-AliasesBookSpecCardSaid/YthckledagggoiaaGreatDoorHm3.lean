import Derived.Test.YthckledagggoiaaGreatDoorHm2
import Derived.Sort.LoopGhostIn
set_option linter.unusedSimpArgs false
set_option linter.unusedVariables false
namespace Go.Proofs.YthckledagggoiaaGreatDoor
open Go.RowKit Go.MapKept Go.Shelf Fk
attribute [local go_sem] Oper.semAt_some
/-! homes.asked: whom a letter's person is asked for. -/
inductive Chain (D : Int → Option En) : Int → List Int → List (Int × Bool) → Prop
  | stop {p : Int} {met : List Int} : D p = none → Chain D p met [(p, false)]
  | circle {p : Int} {met : List Int} {x : En} : D p = some x → x.b ∈ met → Chain D p met [(p, true)]
  | step {p : Int} {met : List Int} {x : En} {r : List (Int × Bool)} : D p = some x → ¬ x.b ∈ met → Chain D x.b (x.b :: met) r → Chain D p met ((p, false) :: r)
noncomputable def metM (met : List Int) : Int → Option Value := fun a => if a ∈ met then some (.bool true) else none
theorem metM_put (met : List Int) (a : Int) : updF (metM met) a (.bool true) = metM (a :: met) := by
  funext x
  unfold metM
  by_cases h : x = a
  · subst h; rw [updF_same, if_pos (by simp)]
  · rw [updF_ne _ _ h]
    by_cases h2 : x ∈ met
    · rw [if_pos h2, if_pos (by simp [h2])]
    · rw [if_neg h2, if_neg (by simp [h, h2])]
theorem metM_get (met : List Int) (a : Int) : (metM met a).getD (.bool false) = .bool (decide (a ∈ met)) := by
  unfold metM
  by_cases h : a ∈ met
  · rw [if_pos h, decide_eq_true h]; rfl
  · rw [if_neg h, decide_eq_false h]; rfl
theorem zero_bool2 (w : World) : (zeroValue 4).run Tryz.prog w = .ok (.bool false) w := by kernel_rfl
theorem DeskK.keepB {base : Nat} {w w' : World} {bd : Nat} {D : Int → Int → Option En} (H : DeskK base w bd D) (hk : ∀ r, r < w.heap.size → w'.heap[r]? = w.heap[r]?) : DeskK base w' bd D := by
  obtain ⟨h, H⟩ := H
  exact ⟨h, H.out.keep (hk _ H.out.lt), fun k b hb => ⟨(H.inn k b hb).1.keep (hk _ (H.inn k b hb).1.lt), (H.inn k b hb).2⟩, H.no, H.one, H.low⟩
/-! the chain there is -/
def left (L met : List Int) : Nat := (L.filter fun a => decide (a ∉ met)).length
theorem left_lt {L met : List Int} {q : Int} (h1 : q ∈ L) (h2 : q ∉ met) : left L (q :: met) < left L met := by
  unfold left
  induction L with
  | nil => cases h1
  | cons a L ih =>
    rw [List.filter_cons, List.filter_cons]
    by_cases ha : a = q
    · subst ha
      rw [if_neg (by simp), if_pos (by simpa using h2), List.length_cons]
      have : (L.filter fun b => decide (b ∉ a :: met)).length ≤ (L.filter fun b => decide (b ∉ met)).length := by
        clear ih h1
        induction L with
        | nil => simp
        | cons b L ih =>
          rw [List.filter_cons, List.filter_cons]
          by_cases hb : b ∈ met
          · rw [if_neg (by simp [hb]), if_neg (by simp [hb])]; exact ih
          · rw [if_pos (show decide (b ∉ met) = true by simpa using hb)]
            split
            · simp only [List.length_cons]; omega
            · simp only [List.length_cons]; omega
      omega
    · have hq : q ∈ L := by
        rcases List.mem_cons.1 h1 with e | e
        · exact absurd e.symm ha
        · exact e
      have := ih hq
      by_cases hb : a ∈ met
      · rw [if_neg (by simp [hb]), if_neg (by simp [hb])]; exact this
      · rw [if_pos (show decide (a ∉ q :: met) = true by simp [ha, hb]), if_pos (show decide (a ∉ met) = true by simpa using hb)]
        simp only [List.length_cons]; omega
theorem left_le (L met : List Int) (q : Int) : left L (q :: met) ≤ left L met := by
  unfold left
  induction L with
  | nil => simp
  | cons b L ih =>
    rw [List.filter_cons, List.filter_cons]
    by_cases hb : b ∈ met
    · rw [if_neg (by simp [hb]), if_neg (by simp [hb])]; exact ih
    · rw [if_pos (show decide (b ∉ met) = true by simpa using hb)]
      split
      · simp only [List.length_cons]; omega
      · simp only [List.length_cons]; omega
theorem chain_ex (D : Int → Option En) (L : List Int) (hL : ∀ p x, D p = some x → p ∈ L) : ∀ (n : Nat) (p : Int) (met : List Int), 2 * left L met + (if p ∈ L then 1 else 0) < n → ∃ r, Chain D p met r := by
  intro n
  induction n with
  | zero => intro p met h; omega
  | succ n ih =>
    intro p met h
    cases hp : D p with
    | none => exact ⟨_, .stop hp⟩
    | some x =>
      by_cases hm : x.b ∈ met
      · exact ⟨_, .circle hp hm⟩
      · rw [if_pos (hL p x hp)] at h
        have hn : 2 * left L (x.b :: met) + (if x.b ∈ L then 1 else 0) < n := by
          by_cases hq : x.b ∈ L
          · have := left_lt hq hm
            rw [if_pos hq]; omega
          · have := left_le L met x.b
            rw [if_neg hq]; omega
        obtain ⟨r, hr⟩ := ih x.b (x.b :: met) hn
        exact ⟨_, .step hp hm hr⟩
theorem chain_one {D : Int → Option En} {p : Int} {met : List Int} {r : List (Int × Bool)} (h : Chain D p met r) : ∀ {s}, Chain D p met s → r = s := by
  induction h with
  | stop h1 =>
    intro s hs
    cases hs with
    | stop => rfl
    | circle h2 => rw [h1] at h2; cases h2
    | step h2 => rw [h1] at h2; cases h2
  | circle h1 h2 =>
    intro s hs
    cases hs with
    | stop h3 => rw [h1] at h3; cases h3
    | circle => rfl
    | step h3 h4 => rw [h1] at h3; cases h3; exact absurd h2 h4
  | step h1 h2 _ ih =>
    intro s hs
    cases hs with
    | stop h3 => rw [h1] at h3; cases h3
    | circle h3 h4 => rw [h1] at h3; cases h3; exact absurd h4 h2
    | step h3 h4 h5 => rw [h1] at h3; cases h3; rw [ih h5]
end Go.Proofs.YthckledagggoiaaGreatDoor
