import Derived.Test.YthckledagggoiaaGreatDoorZAs3
import Derived.Test.YthckledagggoiaaGreatDoorZAs4
set_option linter.unusedSimpArgs false
set_option linter.unusedVariables false
namespace Go.Proofs.YthckledagggoiaaGreatDoor
open Go.RowKit Go.Maps Go.Sort Go.Shelf Fk
/-! Sets of integers L maps; the aliases in a book. -/
noncomputable abbrev setR : Value → Option (DataW Unit × List MemPlace) := plainElem Tryz.prog 4
def MapI (w : World) (b : Nat) (L : List Int) : Prop :=
  ∃ nn es, w.ownsMap Tryz.prog 3 setR b nn (.map es) ∧ nn ≤ L.length ∧ (∀ p ∈ es, ∃ x, p.1 = Lit.int .i64 x) ∧ (∀ x, Maps.has (.map es) (.int .i64 x) = true ↔ x ∈ L)
theorem MapI.made (w : World) : MapI (w.alloc (.map #[] 0)) w.heap.size [] :=
  ⟨0, [], World.ownsMap_made w _ _ _, Nat.le_refl _, fun p hp => by simp at hp, fun x => by simp [Maps.has_eq]⟩
theorem MapI.lt {w : World} {b : Nat} {L : List Int} (h : MapI w b L) : b < w.heap.size := by
  obtain ⟨_, _, h, _⟩ := h; exact h.lt
theorem MapI.kept {w w' : World} {row : Option Nat} {b : Nat} {L : List Int} (h : MapI w b L) (hg : w.grownBy w' row) (hne : some b ≠ row) : MapI w' b L := by
  obtain ⟨nn, es, h1, h2⟩ := h; exact ⟨nn, es, h1.kept hg hne, h2⟩
theorem MapI.below {w w' : World} {b : Nat} {L : List Int} (h : MapI w b L) (hb : Below w.heap.size w w') : MapI w' b L := h.kept (grown_below' hb none) (by simp)
def keyW (x : Int) : Prop := (Lit.int .i64 x).wf = true
theorem keyOf_z {x : Int} (hx : keyW x) : keyOf Tryz.prog 3 (.int .i64 x) = some (.int .i64 x) := by
  simp [keyOf, Tryz.underlying3, mapKey]
  exact hx
theorem MapI.put {w : World} {b : Nat} {L : List Int} (h : MapI w b L) (hl : L.length < 100000) {a : Int} (ha : keyW a) :
    ∃ w', (Instr.mapUpdate 131 (.map (some b)) (.int .i64 a) (.bool true)).run Tryz.prog w = .ok () w' ∧ MapI w' b (L ++ [a]) ∧ w.grownBy w' (some b) := by
  obtain ⟨nn, es, h1, h2, h3, h4⟩ := h
  obtain ⟨w', hrun, hown, hg⟩ := h1.update (int_keyed Tryz.underlying3) Tryz.underlying131 (by unfold maxLen; omega) (keyOf_z ha) (plainElem_bool Tryz.underlying4 true)
  refine ⟨w', hrun, ⟨nn + 1, ChangeMaps.putKey (.int .i64 a) (.lit (.bool true)) es, hown, by simp; omega, ?_, ?_⟩, hg⟩
  · intro p hp
    have hp2 : p = (.int .i64 a, .lit (.bool true)) ∨ p ∈ es := by
      unfold ChangeMaps.putKey at hp
      have h5 : ∀ (l : List (Lit × DataW Unit)) (x : Lit × DataW Unit), p ∈ DataW.insert x l → p = x ∨ p ∈ l := by
        intro l x
        induction l with
        | nil => intro h; simp [DataW.insert] at h; exact .inl h
        | cons y r ih =>
          intro h
          unfold DataW.insert at h
          split at h
          · rcases List.mem_cons.1 h with e | e
            · exact .inl e
            · exact .inr e
          · rcases List.mem_cons.1 h with e | e
            · exact .inr (by rw [e]; exact List.mem_cons_self)
            · rcases ih e with e | e
              · exact .inl e
              · exact .inr (List.mem_cons_of_mem _ e)
      rcases h5 _ _ hp with e | e
      · exact .inl e
      · exact .inr (List.mem_filter.1 e).1
    rcases hp2 with e | e
    · exact ⟨a, by rw [e]⟩
    · exact h3 p e
  · intro x
    rw [← DataW.put_eq]
    by_cases hx : x = a
    · subst hx
      rw [has_put_same ⟨es, rfl⟩ (by simp [WideAt.IsKeyLit])]
      simp
    · rw [has_put_other (by simpa using hx), h4 x]
      simp [hx]
end Go.Proofs.YthckledagggoiaaGreatDoor
